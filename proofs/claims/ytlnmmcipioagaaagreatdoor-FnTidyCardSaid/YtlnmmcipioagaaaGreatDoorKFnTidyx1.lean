/- What the Go functions that FnTidy reaches compute, and that their walks come to just that (written by a program of this project over the kit's print). Conditions: as each states. -/
import Derived.Shelf.LaysM
import Derived.Shelf.Strings.Builder1
import Derived.Shelf.Strings.Builder2
import Derived.Shelf.Strings.Search1
import Derived.Shelf.Strings.Search2
import Derived.Shelf.Strings.Search3
import Derived.Shelf.Strings.Split
import Derived.Shelf.Strings.Replace
import Derived.Test.YtlnmmcipioagaaaGreatDoorProg
import Derived.Lib.ConvBytes
import Derived.Lib.AppendStr
import Derived.Test.YtlnmmcipioagaaaGreatDoorKFnTidyw1
import Derived.Below
import Derived.Deep.Draws
import Derived.Deep.AppendLies
import Derived.Maps.AppendAt
import Derived.OwnWalk
import Derived.Laws.BytesArg
import Derived.Laws.MakeOwn
import Derived.Laws.OwnMore
import Derived.Deep.OwnRows
import Derived.Tactics
import Derived.Laws.Slices
import Derived.WalkKit
import Derived.KernelRfl
import Derived.RowKit3
import Derived.Deep.LoopGhost
import Derived.Deep.QuietTactic
import Derived.BigQuiet
import Derived.WideLaws
import Derived.Deep.DeepCutAuto
import Derived.Deep.CutBlock
import Derived.Deep.RegionHeld3
import Derived.Laws.Rows
import Derived.ArgAppend
import Derived.Laws.IdiomCopy
import Derived.OrdersHeld
import Derived.Laws.BitsLemmas
import Derived.RowKit
set_option maxHeartbeats 64000000
set_option maxRecDepth 100000
namespace Go.Proofs
open Go.Shelf
def Tryz.lays144_ren:Go.Shelf.Ren:=⟨fun|144=>110|143=>118|219=>130|217=>136|225=>137|224=>138|267=>139|266=>142|314=>143|n=>n,fun|9=>9|4=>4|3=>3|5=>5|46=>118|146=>147|51=>146|n=>n,fun|1=>0|n=>n⟩
theorem Tryz.lays144:Go.Proofs.Lays.n144 Tryz.prog Tryz.lays144_ren:= {
 mixed:=by kernel_rfl
 f143:=Tryz.func118.trans (congrArg some (by kernel_rfl))
 f144:=Tryz.func110.trans (congrArg some (by kernel_rfl))
 f217:=Tryz.func136.trans (congrArg some (by kernel_rfl))
 f219:=Tryz.func130.trans (congrArg some (by kernel_rfl))
 f224:=Tryz.func138.trans (congrArg some (by kernel_rfl))
 f225:=Tryz.func137.trans (congrArg some (by kernel_rfl))
 f266:=Tryz.func142.trans (congrArg some (by kernel_rfl))
 f267:=Tryz.func139.trans (congrArg some (by kernel_rfl))
 f314:=Tryz.func143.trans (congrArg some (by kernel_rfl))
 t3:=Tryz.underlying3
 a3:=Tryz.isAgg3
 z3:=Tryz.sizeOf3
 v3:=Tryz.zeroValue3
 t4:=Tryz.underlying4
 a4:=Tryz.isAgg4
 z4:=Tryz.sizeOf4
 v4:=Tryz.zeroValue4
 t5:=Tryz.underlying5
 a5:=Tryz.isAgg5
 z5:=Tryz.sizeOf5
 v5:=Tryz.zeroValue5
 t9:=Tryz.underlying9
 a9:=Tryz.isAgg9
 z9:=Tryz.sizeOf9
 v9:=Tryz.zeroValue9
 t46:=Tryz.underlying118
 a46:=Tryz.isAgg118
 z46:=Tryz.sizeOf118
 v46:=Tryz.zeroValue118
 t51:=Tryz.underlying146
 a51:=Tryz.isAgg146
 z51:=Tryz.sizeOf146
 v51:=Tryz.zeroValue146
 t146:=Tryz.underlying147
 a146:=Tryz.isAgg147
 z146:=Tryz.sizeOf147
 v146:=Tryz.zeroValue147
 g1:=by kernel_rfl}
open Go.RowKit Go.Lib in
theorem Tryz.strings_Contains_one(s:ByteArray)(c:UInt8)(w:World):
 Calls Tryz.prog 110 #[.string s, .string ⟨#[c]⟩] w fun e w'=>e= .returned (.bool (decide (0≤Lib.indexByte s.data.toList c)))∧w'=w:=Any.strings_Contains_one Tryz.lays144 s c w
open Go.RowKit Go.Lib in
theorem Tryz.strings_Contains(s sub:ByteArray)(m:Int)(w:World)(hs:s.size<4294967281)(hm:w.cell? ⟨0,0,none⟩=some (.int .i64 m)):
 Calls Tryz.prog 110 #[.string s, .string sub] w fun e w'=>e= .returned (.bool (Lib.contains s.data.toList sub.data.toList))∧w'=w:=Any.strings_Contains Tryz.lays144 s sub m w hs hm
def Tryz.lays155_ren:Go.Shelf.Ren:=⟨fun|155=>95|154=>111|138=>119|165=>120|143=>118|166=>35|197=>121|169=>22|195=>131|218=>132|240=>59|241=>133|219=>130|260=>134|276=>90|277=>140|217=>136|225=>137|224=>138|267=>139|266=>142|314=>143|n=>n,fun|9=>9|3=>3|4=>4|72=>47|0=>0|76=>64|105=>131|21=>21|5=>5|70=>45|20=>20|37=>33|75=>63|127=>77|164=>104|46=>118|119=>142|139=>145|138=>144|146=>147|51=>146|80=>49|n=>n,fun|1=>0|3=>1|4=>2|n=>n⟩
theorem Tryz.lays155:Go.Proofs.Lays.n155 Tryz.prog Tryz.lays155_ren:= {
 mixed:=by kernel_rfl
 f138:=Tryz.func119.trans (congrArg some (by kernel_rfl))
 f143:=Tryz.func118.trans (congrArg some (by kernel_rfl))
 f154:=Tryz.func111.trans (congrArg some (by kernel_rfl))
 f155:=Tryz.func95.trans (congrArg some (by kernel_rfl))
 f165:=Tryz.func120.trans (congrArg some (by kernel_rfl))
 f166:=Tryz.func35.trans (congrArg some (by kernel_rfl))
 f169:=Tryz.func22.trans (congrArg some (by kernel_rfl))
 f195:=Tryz.func131.trans (congrArg some (by kernel_rfl))
 f197:=Tryz.func121.trans (congrArg some (by kernel_rfl))
 f217:=Tryz.func136.trans (congrArg some (by kernel_rfl))
 f218:=Tryz.func132.trans (congrArg some (by kernel_rfl))
 f219:=Tryz.func130.trans (congrArg some (by kernel_rfl))
 f224:=Tryz.func138.trans (congrArg some (by kernel_rfl))
 f225:=Tryz.func137.trans (congrArg some (by kernel_rfl))
 f240:=Tryz.func59.trans (congrArg some (by kernel_rfl))
 f241:=Tryz.func133.trans (congrArg some (by kernel_rfl))
 f260:=Tryz.func134.trans (congrArg some (by kernel_rfl))
 f266:=Tryz.func142.trans (congrArg some (by kernel_rfl))
 f267:=Tryz.func139.trans (congrArg some (by kernel_rfl))
 f276:=Tryz.func90.trans (congrArg some (by kernel_rfl))
 f277:=Tryz.func140.trans (congrArg some (by kernel_rfl))
 f314:=Tryz.func143.trans (congrArg some (by kernel_rfl))
 t0:=Tryz.underlying0
 a0:=Tryz.isAgg0
 z0:=Tryz.sizeOf0
 v0:=Tryz.zeroValue0
 t3:=Tryz.underlying3
 a3:=Tryz.isAgg3
 z3:=Tryz.sizeOf3
 v3:=Tryz.zeroValue3
 t4:=Tryz.underlying4
 a4:=Tryz.isAgg4
 z4:=Tryz.sizeOf4
 v4:=Tryz.zeroValue4
 t5:=Tryz.underlying5
 a5:=Tryz.isAgg5
 z5:=Tryz.sizeOf5
 v5:=Tryz.zeroValue5
 t9:=Tryz.underlying9
 a9:=Tryz.isAgg9
 z9:=Tryz.sizeOf9
 v9:=Tryz.zeroValue9
 t20:=Tryz.underlying20
 a20:=Tryz.isAgg20
 z20:=Tryz.sizeOf20
 v20:=Tryz.zeroValue20
 t21:=Tryz.underlying21
 a21:=Tryz.isAgg21
 z21:=Tryz.sizeOf21
 v21:=Tryz.zeroValue21
 t37:=Tryz.underlying33
 a37:=Tryz.isAgg33
 z37:=Tryz.sizeOf33
 v37:=Tryz.zeroValue33
 t46:=Tryz.underlying118
 a46:=Tryz.isAgg118
 z46:=Tryz.sizeOf118
 v46:=Tryz.zeroValue118
 t51:=Tryz.underlying146
 a51:=Tryz.isAgg146
 z51:=Tryz.sizeOf146
 v51:=Tryz.zeroValue146
 t70:=Tryz.underlying45
 a70:=Tryz.isAgg45
 z70:=Tryz.sizeOf45
 v70:=Tryz.zeroValue45
 t72:=Tryz.underlying47
 a72:=Tryz.isAgg47
 z72:=Tryz.sizeOf47
 v72:=Tryz.zeroValue47
 t75:=Tryz.underlying63
 a75:=Tryz.isAgg63
 z75:=Tryz.sizeOf63
 v75:=Tryz.zeroValue63
 t76:=Tryz.underlying64
 a76:=Tryz.isAgg64
 z76:=Tryz.sizeOf64
 v76:=Tryz.zeroValue64
 t105:=Tryz.underlying131
 a105:=Tryz.isAgg131
 z105:=Tryz.sizeOf131
 v105:=Tryz.zeroValue131
 t119:=Tryz.underlying142
 a119:=Tryz.isAgg142
 z119:=Tryz.sizeOf142
 t127:=Tryz.underlying77
 a127:=Tryz.isAgg77
 z127:=Tryz.sizeOf77
 v127:=Tryz.zeroValue77
 t138:=Tryz.underlying144
 a138:=Tryz.isAgg144
 z138:=Tryz.sizeOf144
 v138:=Tryz.zeroValue144
 t139:=Tryz.underlying145
 a139:=Tryz.isAgg145
 z139:=Tryz.sizeOf145
 v139:=Tryz.zeroValue145
 t146:=Tryz.underlying147
 a146:=Tryz.isAgg147
 z146:=Tryz.sizeOf147
 v146:=Tryz.zeroValue147
 t164:=Tryz.underlying104
 a164:=Tryz.isAgg104
 z164:=Tryz.sizeOf104
 v164:=Tryz.zeroValue104
 g1:=by kernel_rfl
 g3:=by kernel_rfl
 g4:=by kernel_rfl}
theorem Tryz.Builder_Extra_155:Builder.Extra Tryz.prog Tryz.lays155_ren:= {
 sizeBuilder:=by kernel_rfl
 liesBuilder:=by kernel_rfl
 t5:=Tryz.underlying5
 a5:=Tryz.isAgg5
 z5:=Tryz.sizeOf5
 v5:=Tryz.zeroValue5
 infoByte:=by kernel_rfl
 cellsByte:=by kernel_rfl
 sizeByte:=by kernel_rfl
 neB5:=by decide}
open Go.RowKit Go.Lib in
theorem Tryz.strings_ReplaceAll(s old new:ByteArray)(m:Int)(w:World)(hs:s.size<4294967281)(hm:w.cell? ⟨0,0,none⟩=some (.int .i64 m))(h1:1≤old.size)(hlen:s.size+Lib.countB s old*new.size≤140737488355328):
 Calls Tryz.prog 95 #[.string s, .string old, .string new] w fun e w'=>
  e= .returned (.string ⟨(Lib.replaceAll s.data.toList old.data.toList new.data.toList).toArray⟩)∧Below w.heap.size w w':=Any.strings_ReplaceAll Tryz.lays155 Tryz.Builder_Extra_155 s old new m w hs hm h1 hlen
def Tryz.laysM155_ren:Go.Shelf.Ren:=⟨fun|155=>95|154=>111|138=>119|165=>120|143=>118|166=>35|197=>121|169=>22|195=>131|218=>132|240=>59|241=>133|219=>130|260=>134|276=>90|277=>140|217=>136|225=>137|224=>138|267=>139|266=>142|314=>143|n=>n,fun|9=>9|3=>3|4=>4|72=>47|0=>0|76=>64|105=>131|21=>21|5=>5|70=>45|20=>20|37=>33|75=>63|127=>77|164=>104|46=>118|119=>142|139=>145|138=>144|146=>147|51=>146|80=>49|n=>n,fun|1=>0|3=>1|4=>2|n=>n⟩
theorem Tryz.laysM155:Go.Proofs.LaysM.n155 Tryz.prog Tryz.laysM155_ren:= {
 mixed:=by kernel_rfl
 f138:=Tryz.func119.trans (congrArg some (by kernel_rfl))
 f143:=Tryz.func118.trans (congrArg some (by kernel_rfl))
 f154:=Tryz.func111.trans (congrArg some (by kernel_rfl))
 f155:=Tryz.func95.trans (congrArg some (by kernel_rfl))
 f165:=Tryz.func120.trans (congrArg some (by kernel_rfl))
 f166:=Tryz.func35.trans (congrArg some (by kernel_rfl))
 f169:=Tryz.func22.trans (congrArg some (by kernel_rfl))
 f195:=Tryz.func131.trans (congrArg some (by kernel_rfl))
 f197:=Tryz.func121.trans (congrArg some (by kernel_rfl))
 f217:=Tryz.func136.trans (congrArg some (by kernel_rfl))
 f218:=Tryz.func132.trans (congrArg some (by kernel_rfl))
 f219:=Tryz.func130.trans (congrArg some (by kernel_rfl))
 f224:=Tryz.func138.trans (congrArg some (by kernel_rfl))
 f225:=Tryz.func137.trans (congrArg some (by kernel_rfl))
 f240:=Tryz.func59.trans (congrArg some (by kernel_rfl))
 f241:=Tryz.func133.trans (congrArg some (by kernel_rfl))
 f260:=Tryz.func134.trans (congrArg some (by kernel_rfl))
 f266:=Tryz.func142.trans (congrArg some (by kernel_rfl))
 f267:=Tryz.func139.trans (congrArg some (by kernel_rfl))
 f276:=Tryz.func90.trans (congrArg some (by kernel_rfl))
 f277:=Tryz.func140.trans (congrArg some (by kernel_rfl))
 f314:=Tryz.func143.trans (congrArg some (by kernel_rfl))
 t0:=Tryz.underlying0
 a0:=Tryz.isAgg0
 z0:=Tryz.sizeOf0
 v0:=Tryz.zeroValue0
 t3:=Tryz.underlying3
 a3:=Tryz.isAgg3
 z3:=Tryz.sizeOf3
 v3:=Tryz.zeroValue3
 t4:=Tryz.underlying4
 a4:=Tryz.isAgg4
 z4:=Tryz.sizeOf4
 v4:=Tryz.zeroValue4
 t5:=Tryz.underlying5
 a5:=Tryz.isAgg5
 z5:=Tryz.sizeOf5
 v5:=Tryz.zeroValue5
 t9:=Tryz.underlying9
 a9:=Tryz.isAgg9
 z9:=Tryz.sizeOf9
 v9:=Tryz.zeroValue9
 t20:=Tryz.underlying20
 a20:=Tryz.isAgg20
 z20:=Tryz.sizeOf20
 v20:=Tryz.zeroValue20
 t21:=Tryz.underlying21
 a21:=Tryz.isAgg21
 z21:=Tryz.sizeOf21
 v21:=Tryz.zeroValue21
 t37:=Tryz.underlying33
 a37:=Tryz.isAgg33
 z37:=Tryz.sizeOf33
 v37:=Tryz.zeroValue33
 t46:=Tryz.underlying118
 a46:=Tryz.isAgg118
 z46:=Tryz.sizeOf118
 v46:=Tryz.zeroValue118
 t51:=Tryz.underlying146
 a51:=Tryz.isAgg146
 z51:=Tryz.sizeOf146
 v51:=Tryz.zeroValue146
 t70:=Tryz.underlying45
 a70:=Tryz.isAgg45
 z70:=Tryz.sizeOf45
 v70:=Tryz.zeroValue45
 t72:=Tryz.underlying47
 a72:=Tryz.isAgg47
 z72:=Tryz.sizeOf47
 v72:=Tryz.zeroValue47
 t75:=Tryz.underlying63
 a75:=Tryz.isAgg63
 z75:=Tryz.sizeOf63
 v75:=Tryz.zeroValue63
 t76:=Tryz.underlying64
 a76:=Tryz.isAgg64
 z76:=Tryz.sizeOf64
 v76:=Tryz.zeroValue64
 t105:=Tryz.underlying131
 a105:=Tryz.isAgg131
 z105:=Tryz.sizeOf131
 v105:=Tryz.zeroValue131
 t119:=Tryz.underlying142
 a119:=Tryz.isAgg142
 z119:=Tryz.sizeOf142
 t127:=Tryz.underlying77
 a127:=Tryz.isAgg77
 z127:=Tryz.sizeOf77
 v127:=Tryz.zeroValue77
 t138:=Tryz.underlying144
 a138:=Tryz.isAgg144
 z138:=Tryz.sizeOf144
 v138:=Tryz.zeroValue144
 t139:=Tryz.underlying145
 a139:=Tryz.isAgg145
 z139:=Tryz.sizeOf145
 v139:=Tryz.zeroValue145
 t146:=Tryz.underlying147
 a146:=Tryz.isAgg147
 z146:=Tryz.sizeOf147
 v146:=Tryz.zeroValue147
 t164:=Tryz.underlying104
 a164:=Tryz.isAgg104
 z164:=Tryz.sizeOf104
 v164:=Tryz.zeroValue104
 g1:=by kernel_rfl
 g3:=by kernel_rfl
 g4:=by kernel_rfl
 t80:=Tryz.underlying49
 a80:=Tryz.isAgg49
 z80:=Tryz.sizeOf49
 v80:=Tryz.zeroValue49
 i0:=by kernel_rfl
 i3:=by kernel_rfl
 i4:=by kernel_rfl
 i5:=by kernel_rfl
 i9:=by kernel_rfl
 i20:=by kernel_rfl
 i21:=by kernel_rfl
 i37:=by kernel_rfl
 i46:=by kernel_rfl
 i51:=by kernel_rfl
 i70:=by kernel_rfl
 i72:=by kernel_rfl
 i75:=by kernel_rfl
 i76:=by kernel_rfl
 i80:=by kernel_rfl
 i105:=by kernel_rfl
 i127:=by kernel_rfl
 i138:=by kernel_rfl
 i139:=by kernel_rfl
 i146:=by kernel_rfl
 i164:=by kernel_rfl
 m1:=by kernel_rfl
 s1_3:=fun w h=>Go.Proofs.cell_of_shapedOpen_int (zero:= #[.int .i64 0]) (t:=3) h (of_decide_eq_true (by kernel_rfl)) (by kernel_rfl) rfl (by kernel_rfl) (by kernel_rfl) Tryz.underlying3
 m3:=by kernel_rfl
 m4:=by kernel_rfl}
end Go.Proofs
namespace Go.Proofs.YtlnmmcipioagaaaGreatDoor.X
open Go.RowKit Go.Proofs.YtlnmmcipioagaaaGreatDoorW.PrintWords Go.Proofs.YtlnmmcipioagaaaGreatDoorW.PrintLast Go.Proofs.YtlnmmcipioagaaaGreatDoorW.PrintMore
section
variable {P:Program} {ops:Array Oper} {rest:List Oper} {o:Oper} {a:Act} {Q:Exit→Act→World→Prop}
theorem conv_grown(W:World)(e:TypeId)(s:ByteArray):W.grownBy (Lib.bytesWorld W e s) none:=
 ⟨rfl,rfl,rfl,by rw[Lib.bytesWorld_size];omega,fun k hk _=>Lib.bytesWorld_at_old W e s k hk⟩
theorem conv_reads(W W':World)(e:TypeId)(s:ByteArray)(hl:s.size≤140737488355328)(h:W'.heap[W.heap.size]? =(Lib.bytesWorld W e s).heap[W.heap.size]?):
 Kd.C (Kd.int .u8) W' (some ⟨W.heap.size,0,none⟩) (bytesOf s).length (bytesOf s):=by
 have hr:=bytes_reads W e s (by omega);have hr':ReadsInt W' .u8 (some ⟨W.heap.size,0,none⟩) s.size (bytesOf s):=by
  refine⟨hr.1,hr.2.1,fun h0=> ?_⟩;obtain⟨ad,he,hc⟩:=hr.2.2 h0;refine⟨ad,he,fun j hj=> ?_⟩;rw[←hc j hj];injection he with he
  subst he;refine World.cell?_of_block ?_;have hb:((⟨W.heap.size,0,none⟩:Addr).add j).block=W.heap.size:=by unfold Addr.add;split<;>rfl
  rw[hb];exact h
 rw[bytesOf_length];exact Kd.C_of_reads (d:=(0:Int)) (h1:=fun _=>rfl) hr'
theorem conv_V{w0 W:World}(base e:Nat)(hgd:o.guard=none){N':Tmp}(_hd:o.dst=some N')(src dst:TypeId)(x:Operand)(ho:o.op= .convert src dst x)(s:ByteArray)(hx:a.eval x= .string s)
 (hs:P.underlying src=some .string)(hds:P.underlying dst=some (.slice e))(he:P.underlying e=some (.int .u8))(hl:s.size≤140737488355328){ok:Nat→Prop}(hfresh:ok W.heap.size)(HB:Below base w0 W)(hbase:base≤W.heap.size)
 (h: ∀v1 w1,Kd.V (Kd.int .u8) e w1 base ok v1 (bytesOf s)→Below base w0 w1→W.grownBy w1 none→(∃b,v1.ownBlock=some b∧W.heap.size≤b)→wpList P ops Q rest (a.put o.dst v1) w1):wpList P ops Q (o::rest) a W:=by
 have hrun:(execOp a.eval o).run P W= .ok (.value (.slice (some ⟨W.heap.size,0,none⟩) s.size (grownCap W s.size 0 e))) (Lib.bytesWorld W e s):=by
  simp [execOp,ho,hx,Lib.run_convert_string_bytes W src dst e s hs hds he]
 have hb:=bytesOf_length s;refine Kd.event_run hgd hrun (h _ _ ?_ (HB.grown (conv_grown W e s) hbase (fun j hj=>by cases hj)) (conv_grown W e s) ⟨W.heap.size,by simp [Value.ownBlock],Nat.le_refl _⟩);rw[show s.size=(bytesOf s).length from hb.symm];refine Kd.V_mk (by rw[hb];exact grownCap_ge W s.size 0 e) (fun W' hW=> ?_);exact conv_reads W W' e s hl (hW W.heap.size hfresh (by rw[Lib.bytesWorld_size];omega))
theorem append_str_hat(w:World)(base:Nat)(t u ty e:TypeId)(i:TypeInfo)(ht:P.underlying t=some (.slice e))(hu:P.underlying u=some .string)(hi:P.info? e=some i)(hz:i.zero=some (.int .u8 0))
 (hsize:i.size=1)(hby:i.bytes=1)(v:Value)(n:Nat)(xs:List Value)(hown:w.ownsRow base e 1 v n xs)(s:ByteArray)(hbytes:n+s.size≤140737488355328)
 {v':Value}{w':World}(hrun:(Builtin.append_ #[t,u] ty #[v, .string s]).run P w= .ok v' w'):v'.ownBlock=v.ownBlock∨ ∃b,v'.ownBlock=some b∧w.heap.size≤b:=by
 have hxl:xs.length=n:=by simpa using hown.1
 rcases hown.2 with⟨rfl,rfl⟩|⟨g,cap,cur,rfl,hbg,hg,hnc,hcm,hcs,htake⟩
 ·by_cases hm:s.size=0
  ·have hf:=Lib.run_firstCells_string (P:=P) w 1 s;rw[hm]at hf;have hr:(Builtin.append_ #[t,u] ty #[.slice none 0 0, .string s]).run P w= .ok (.slice none 0 0) w:=by
    simp [Builtin.append_,run_underlying ht,run_underlying hu,sizeOf,typeInfo,hi,hsize,Builtin.lenOf,hm,hf]
   rw[hr]at hrun;injection hrun with h1 h2
   exact .inl (by rw[←h1])
  ·have hr:=run_append_nil_string (P:=P) w t u ty e i (.int .u8 0) ht hu hi hz s (by omega) (by omega) (by rw[hby];omega);rw[hr]at hrun;injection hrun with h1 h2;exact .inr ⟨w.heap.size,by rw[←h1];rfl,Nat.le_refl _⟩
 ·by_cases hroom:n+s.size≤cap
  ·have hr:=Lib.run_append_room_string (P:=P) w t u ty e i ht hu hi hsize g n cap cur hg s hroom (by omega);rw[hr]at hrun;injection hrun with h1 h2;exact .inl (by rw[←h1];rfl)
  ·have holds: ∀j u,xs[j]? =some u→w.cell? ((⟨g,0,none⟩:Addr).add j)=some u:=hown.cells (g:=g) rfl;have hr:=Lib.run_append_grow_string (P:=P) w t u ty e i (.int .u8 0) ht hu hi hz ⟨g,0,none⟩ n cap xs (by rw[hsize];simpa using hxl) holds s (by omega) (by omega) (by rw[hby];exact growslice_fits (by omega) (by omega));rw[hr]at hrun;injection hrun with h1 h2;exact .inr ⟨w.heap.size,by rw[←h1];rfl,Nat.le_refl _⟩
theorem append_str{w0 W:World}(base:Nat)(hgd:o.guard=none)(s x:Operand)(t u e:TypeId)
 (ho:o.op= .call {callee:= .builtin .append,args:= #[s,x],argTypes:= #[t,u]})
 (ht:P.underlying t=some (.slice e))(hu:P.underlying u=some .string)(hinfo:(P.info? e).map (fun i=>(i.zero,i.size,i.bytes))=some (some (.int .u8 0),1,1))
 (v:Value)(xs:List Int)(y:ByteArray)(ok:Nat→Prop)(hfresh: ∀k,W.heap.size≤k→ok k)(hs:a.eval s=v)(hx:a.eval x= .string y)
 (HO:Kd.R (Kd.int .u8) e W base ok v xs)(HB:Below base w0 W)(hbase:base≤W.heap.size)(hl:xs.length+y.size≤140737488355328)
 (h: ∀v1 w1,Kd.R (Kd.int .u8) e w1 base ok v1 (xs++bytesOf y)→Below base w0 w1→W.grownBy w1 v.ownBlock→(v1.ownBlock=v.ownBlock∨ ∃b,v1.ownBlock=some b∧W.heap.size≤b)→wpList P ops Q rest (a.put o.dst v1) w1):
 wpList P ops Q (o::rest) a W:=by
 obtain⟨i0,hi,hzz⟩:=Option.map_eq_some_iff.1 hinfo;simp only[Prod.mk.injEq]at hzz;obtain⟨hz0,hz1,hz2⟩:=hzz;have hown:W.ownsRow base e 1 v xs.length (nums .u8 xs):=Kd.own_of_R HO;obtain⟨v',w',hr,h2,h3,h4⟩:=Lib.run_append_own_string (P:=P) W base t u o.type e i0 ht hu hi hz0 hz1 hz2 v xs.length (nums .u8 xs) hown y (by simp only[maxLen];omega) hl hbase;have hat:=append_str_hat (P:=P) W base t u o.type e i0 ht hu hi hz0 hz1 hz2 v xs.length (nums .u8 xs) hown y hl hr;have hl2:(xs++bytesOf y).length=xs.length+y.size:=by rw[List.length_append,bytesOf_length]
 have hc:nums .u8 (xs++bytesOf y)=nums .u8 xs++Lib.strCells y:=by
  rw[nums_append]
  congr 1
  simp [nums,bytesOf,Lib.strCells]
 refine wpList_plain hgd fun K hK=> ?_
 unfold Oper.wp execOp;simp only[ho,resolve,invoke,builtin,Sem.run_bind,Sem.run_pure,Result.andThen_ok,List.map_toArray,List.map_cons,List.map_nil,hs,hx,hr];refine hK _ _ (h v' w' (Kd.R_of_own (h1:=fun _=>rfl) (by rw[hl2];show w'.ownsRow base e 1 v' _ (nums .u8 (xs++bytesOf y));rw[hc];exact h2) (fun k hk=> ?_)) (HB.grown h3 hbase (own_base hown)) h3 hat);rcases hat with hat|⟨b,hb,hle⟩
 ·exact HO.1 k (by rw[←hat];exact hk)
 ·rw[hb]at hk;injection hk with hk
  exact hfresh k (by omega)
end
end Go.Proofs.YtlnmmcipioagaaaGreatDoor.X
namespace Go.Proofs.YtlnmmcipioagaaaGreatDoor.X
open Go.RowKit Go.Proofs.YtlnmmcipioagaaaGreatDoorW.PrintWords Go.Proofs.YtlnmmcipioagaaaGreatDoorW.PrintLast Go.Proofs.YtlnmmcipioagaaaGreatDoorW.PrintMore
attribute [local go_sem] max2_int min2_int max_two min_two max_three min_three max_four min_four
set_option linter.unusedVariables false
set_option linter.unusedSimpArgs false
theorem Ak{p:Prop}(h:p):Aside0 p:=⟨h⟩
theorem Oi{α:Type}{a b:α}(h:some a=some b):a=b:=Option.some.inj h
theorem Ob{α β:Type}{o:Option α}{f:α→Option β}{b:β}(h:o.bind f=some b): ∃a,o=some a∧f a=some b:=Option.bind_eq_some_iff.1 h
def errW:Option Int→Value
 |none=> .nilIface
 |some c=> .iface 0 (.int .i64 c)
theorem errW_none:errW none= .nilIface:=rfl
theorem errW_some(c:Int):errW (some c)= .iface 0 (.int .i64 c):=rfl
theorem info3:(Tryz.prog.info? 3).map (fun i=>(i.zero,i.size,i.bytes))=some (some (.int .i64 0),1,8):=by kernel_rfl
theorem info4:(Tryz.prog.info? 4).map (fun i=>(i.zero,i.size,i.bytes))=some (some (.bool false),1,1):=by kernel_rfl
theorem info5:(Tryz.prog.info? 5).map (fun i=>(i.zero,i.size,i.bytes))=some (some (.int .u8 0),1,1):=by kernel_rfl
theorem info9:(Tryz.prog.info? 9).map (fun i=>(i.zero,i.size,i.bytes))=some (some (.string ⟨#[]⟩),1,16):=by kernel_rfl
theorem info41:(Tryz.prog.info? 41).map (fun i=>(i.zero,i.size,i.bytes))=some (some (.agg #[(.int .i64 0),(.string ⟨#[]⟩),(.slice none 0 0),(.string ⟨#[]⟩),(.int .i64 0),(.slice none 0 0)]),6,96):=by kernel_rfl
theorem info72:(Tryz.prog.info? 72).map (fun i=>(i.zero,i.size,i.bytes))=some (some (.agg #[(.string ⟨#[]⟩),(.string ⟨#[]⟩)]),2,32):=by kernel_rfl
/-! #### struct type 107 -/
structure S107 where
 f0:ByteArray
 f1:ByteArray
def z107:S107:=⟨(⟨#[]⟩:ByteArray),(⟨#[]⟩:ByteArray)⟩
def k107:Kd S107:=Kd.iso (Kd.pair Kd.string Kd.string) (fun x:S107=>(x.f0,x.f1))
theorem k107_heap:Kd.Heap k107:=Kd.heap_iso _ (Kd.heap_pair Kd.heap_string Kd.heap_string)
theorem k107_open{w:World}{x:S107}{cs:List Value}(h:k107.K w x cs):cs= [.string x.f0, .string x.f1]:=by
 obtain⟨_,_,rfl,rfl,rfl⟩:=h;exact rfl
theorem k107_openM{w:World}{base:Nat}{ok:Nat→Prop}{x:S107}{cs:List Value}(h:k107.M w base ok x cs):cs= [.string x.f0, .string x.f1]:=by
 obtain⟨_,_,rfl,rfl,rfl⟩:=h;exact rfl
theorem k107_mk(w:World)(x:S107):k107.K w x [.string x.f0, .string x.f1]:=⟨[.string x.f0],[.string x.f1],rfl,rfl,rfl⟩
theorem k107_mkM(w:World)(base:Nat)(ok:Nat→Prop)(x:S107):k107.M w base ok x [.string x.f0, .string x.f1]:=⟨[.string x.f0],[.string x.f1],rfl,rfl,rfl⟩
theorem k107_mkF(W:World)(ok:Nat→Prop)(x:S107):Kd.FK k107 W ok x [.string x.f0, .string x.f1]:=fun W2 _=>k107_mk W2 x
def rd_T107(xs:List S107)(i:Int):S107:=xs.getD i.toNat z107
theorem at_T107{w:World}{A:Option Addr}{n:Nat}{xs:List S107}(h:Kd.C k107 w A n xs)(i:Int)(h0:0≤i)(h1:i<n): ∃ad,A=some ad∧w.cell? (ad.add (i.toNat*2))=some (.string (rd_T107 xs i).f0)∧w.cell? ⟨(ad.add (i.toNat*2)).block,(ad.add (i.toNat*2)).off+1,none⟩=some (.string (rd_T107 xs i).f1):=by
 obtain⟨ad,c,e,_,hK,hc0⟩:=Kd.C_get h z107 i h0 h1;have hc: ∀j u,c[j]? =some u→w.cell? (ad.add (i.toNat*2+j))=some u:=hc0;obtain rfl:=k107_open hK;exact⟨ad,e,hc 0 _ rfl,by rw[←add_field _ _ 1 (by omega)];exact hc 1 _ rfl⟩
def rd_L3(xs:List (List S107))(i:Int):(List S107):=xs.getD i.toNat ([]:List S107)
theorem at_L3{w:World}{A:Option Addr}{n:Nat}{xs:List (List S107)}(h:Kd.C (Kd.slice 107 k107) w A n xs)(i:Int)(h0:0≤i)(h1:i<n): ∃ad A0 c0,A=some ad∧w.cell? (ad.add i.toNat)=some (.slice A0 (rd_L3 xs i).length c0)∧(rd_L3 xs i).length≤c0∧k107.C w A0 (rd_L3 xs i).length (rd_L3 xs i):=by
 obtain⟨ad,c,e,_,hK,hc0⟩:=Kd.C_get h ([]:List S107) i h0 h1;have hc: ∀j u,c[j]? =some u→w.cell? (ad.add (i.toNat*1+j))=some u:=hc0;obtain⟨A0,c0,rfl,l0,g0⟩:=hK;exact⟨ad,A0,c0,e,by have hq:=hc 0 _ rfl;rwa [Nat.mul_one,Nat.add_zero]at hq,l0,g0⟩
def rd_L4(xs:List (List Int))(i:Int):(List Int):=xs.getD i.toNat ([]:List Int)
theorem at_L4{w:World}{A:Option Addr}{n:Nat}{xs:List (List Int)}(h:Kd.C (Kd.slice 3 (Kd.int .i64)) w A n xs)(i:Int)(h0:0≤i)(h1:i<n): ∃ad A0 c0,A=some ad∧w.cell? (ad.add i.toNat)=some (.slice A0 (rd_L4 xs i).length c0)∧(rd_L4 xs i).length≤c0∧(Kd.int .i64).C w A0 (rd_L4 xs i).length (rd_L4 xs i):=by
 obtain⟨ad,c,e,_,hK,hc0⟩:=Kd.C_get h ([]:List Int) i h0 h1;have hc: ∀j u,c[j]? =some u→w.cell? (ad.add (i.toNat*1+j))=some u:=hc0;obtain⟨A0,c0,rfl,l0,g0⟩:=hK;exact⟨ad,A0,c0,e,by have hq:=hc 0 _ rfl;rwa [Nat.mul_one,Nat.add_zero]at hq,l0,g0⟩
/-! #### struct type 70 -/
structure S70 where
 f0:Int
 f1:ByteArray
 f2:(List S107)
 f3:ByteArray
 f4:Int
 f5:(List Int)
def z70:S70:=⟨(0:Int),(⟨#[]⟩:ByteArray),([]:List S107),(⟨#[]⟩:ByteArray),(0:Int),([]:List Int)⟩
def k70:Kd S70:=Kd.iso (Kd.pair (Kd.int .i64) (Kd.pair Kd.string (Kd.pair (Kd.slice 107 k107) (Kd.pair Kd.string (Kd.pair (Kd.int .i64) (Kd.slice 3 (Kd.int .i64))))))) (fun x:S70=>(x.f0,x.f1,x.f2,x.f3,x.f4,x.f5))
theorem k70_heap:Kd.Heap k70:=Kd.heap_iso _ (Kd.heap_pair (Kd.heap_int .i64) (Kd.heap_pair Kd.heap_string (Kd.heap_pair (Kd.heap_slice 107 k107_heap) (Kd.heap_pair Kd.heap_string (Kd.heap_pair (Kd.heap_int .i64) (Kd.heap_slice 3 (Kd.heap_int .i64)))))))
theorem k70_open{w:World}{x:S70}{cs:List Value}(h:k70.K w x cs): ∃A2 c2 A5 c5,cs= [.int .i64 x.f0, .string x.f1, .slice A2 x.f2.length c2, .string x.f3, .int .i64 x.f4, .slice A5 x.f5.length c5]∧x.f2.length≤c2∧k107.C w A2 x.f2.length x.f2∧x.f5.length≤c5∧(Kd.int .i64).C w A5 x.f5.length x.f5:=by
 obtain⟨_,_,rfl,rfl,⟨_,_,rfl,rfl,⟨_,_,rfl,⟨A2,c2,rfl,l2,g2⟩,⟨_,_,rfl,rfl,⟨_,_,rfl,rfl,⟨A5,c5,rfl,l5,g5⟩⟩⟩⟩⟩⟩:=h;exact⟨A2,c2,A5,c5,rfl,l2,g2,l5,g5⟩
theorem k70_openM{w:World}{base:Nat}{ok:Nat→Prop}{x:S70}{cs:List Value}(h:k70.M w base ok x cs): ∃v2 v5,cs= [.int .i64 x.f0, .string x.f1,v2, .string x.f3, .int .i64 x.f4,v5]∧k107.R 107 w base ok v2 x.f2∧(Kd.int .i64).R 3 w base ok v5 x.f5:=by
 obtain⟨_,_,rfl,rfl,⟨_,_,rfl,rfl,⟨_,_,rfl,⟨v2,rfl,g2⟩,⟨_,_,rfl,rfl,⟨_,_,rfl,rfl,⟨v5,rfl,g5⟩⟩⟩⟩⟩⟩:=h;exact⟨v2,v5,rfl,g2,g5⟩
theorem k70_mk(w:World)(x:S70){A2:Option Addr}{c2:Nat}(l2:x.f2.length≤c2)(g2:k107.C w A2 x.f2.length x.f2){A5:Option Addr}{c5:Nat}(l5:x.f5.length≤c5)(g5:(Kd.int .i64).C w A5 x.f5.length x.f5):k70.K w x [.int .i64 x.f0, .string x.f1, .slice A2 x.f2.length c2, .string x.f3, .int .i64 x.f4, .slice A5 x.f5.length c5]:=⟨[.int .i64 x.f0],[.string x.f1, .slice A2 x.f2.length c2, .string x.f3, .int .i64 x.f4, .slice A5 x.f5.length c5],rfl,rfl,⟨[.string x.f1],[.slice A2 x.f2.length c2, .string x.f3, .int .i64 x.f4, .slice A5 x.f5.length c5],rfl,rfl,⟨[.slice A2 x.f2.length c2],[.string x.f3, .int .i64 x.f4, .slice A5 x.f5.length c5],rfl,⟨A2,c2,rfl,l2,g2⟩,⟨[.string x.f3],[.int .i64 x.f4, .slice A5 x.f5.length c5],rfl,rfl,⟨[.int .i64 x.f4],[.slice A5 x.f5.length c5],rfl,rfl,⟨A5,c5,rfl,l5,g5⟩⟩⟩⟩⟩⟩
theorem k70_mkM(w:World)(base:Nat)(ok:Nat→Prop)(x:S70){v2:Value}(g2:k107.R 107 w base ok v2 x.f2){v5:Value}(g5:(Kd.int .i64).R 3 w base ok v5 x.f5):k70.M w base ok x [.int .i64 x.f0, .string x.f1,v2, .string x.f3, .int .i64 x.f4,v5]:=⟨[.int .i64 x.f0],[.string x.f1,v2, .string x.f3, .int .i64 x.f4,v5],rfl,rfl,⟨[.string x.f1],[v2, .string x.f3, .int .i64 x.f4,v5],rfl,rfl,⟨[v2],[.string x.f3, .int .i64 x.f4,v5],rfl,⟨v2,rfl,g2⟩,⟨[.string x.f3],[.int .i64 x.f4,v5],rfl,rfl,⟨[.int .i64 x.f4],[v5],rfl,rfl,⟨v5,rfl,g5⟩⟩⟩⟩⟩⟩
theorem k70_openF{W:World}{ok:Nat→Prop}{x:S70}{cs:List Value}(h:Kd.FK k70 W ok x cs): ∃A2 c2 A5 c5,cs= [.int .i64 x.f0, .string x.f1, .slice A2 x.f2.length c2, .string x.f3, .int .i64 x.f4, .slice A5 x.f5.length c5]∧x.f2.length≤c2∧Kd.F k107 W ok A2 x.f2.length x.f2∧x.f5.length≤c5∧Kd.F (Kd.int .i64) W ok A5 x.f5.length x.f5:=by
 obtain⟨A2,c2,A5,c5,rfl,l2,_,l5,_⟩:=k70_open (Kd.FK_now h);exact⟨A2,c2,A5,c5,rfl,l2,(fun W' hW=>by obtain⟨A2_,c2_,A5_,c5_,he,l2_,g2_,l5_,g5_⟩:=k70_open (h W' hW);injection (Oi (show some (Value.slice A2 x.f2.length c2)=some (Value.slice A2_ x.f2.length c2_)from congrArg (fun l=>l[2]?) he))with ha_ _ _;rw[ha_];exact g2_),l5,(fun W' hW=>by obtain⟨A2_,c2_,A5_,c5_,he,l2_,g2_,l5_,g5_⟩:=k70_open (h W' hW);injection (Oi (show some (Value.slice A5 x.f5.length c5)=some (Value.slice A5_ x.f5.length c5_)from congrArg (fun l=>l[5]?) he))with ha_ _ _;rw[ha_];exact g5_)⟩
theorem k70_mkF(W:World)(ok:Nat→Prop)(x:S70){A2:Option Addr}{c2:Nat}(l2:x.f2.length≤c2)(g2:Kd.F k107 W ok A2 x.f2.length x.f2){A5:Option Addr}{c5:Nat}(l5:x.f5.length≤c5)(g5:Kd.F (Kd.int .i64) W ok A5 x.f5.length x.f5):Kd.FK k70 W ok x [.int .i64 x.f0, .string x.f1, .slice A2 x.f2.length c2, .string x.f3, .int .i64 x.f4, .slice A5 x.f5.length c5]:=fun W2 hW=>k70_mk W2 x l2 (g2 W2 hW) l5 (g5 W2 hW)
def rd_T70(xs:List S70)(i:Int):S70:=xs.getD i.toNat z70
theorem at_T70{w:World}{A:Option Addr}{n:Nat}{xs:List S70}(h:Kd.C k70 w A n xs)(i:Int)(h0:0≤i)(h1:i<n): ∃ad A2 c2 A5 c5,A=some ad∧w.cell? (ad.add (i.toNat*6))=some (.int .i64 (rd_T70 xs i).f0)∧w.cell? ⟨(ad.add (i.toNat*6)).block,(ad.add (i.toNat*6)).off+1,none⟩=some (.string (rd_T70 xs i).f1)∧w.cell? ⟨(ad.add (i.toNat*6)).block,(ad.add (i.toNat*6)).off+2,none⟩=some (.slice A2 (rd_T70 xs i).f2.length c2)∧w.cell? ⟨(ad.add (i.toNat*6)).block,(ad.add (i.toNat*6)).off+3,none⟩=some (.string (rd_T70 xs i).f3)∧w.cell? ⟨(ad.add (i.toNat*6)).block,(ad.add (i.toNat*6)).off+4,none⟩=some (.int .i64 (rd_T70 xs i).f4)∧w.cell? ⟨(ad.add (i.toNat*6)).block,(ad.add (i.toNat*6)).off+5,none⟩=some (.slice A5 (rd_T70 xs i).f5.length c5)∧(rd_T70 xs i).f2.length≤c2∧k107.C w A2 (rd_T70 xs i).f2.length (rd_T70 xs i).f2∧(rd_T70 xs i).f5.length≤c5∧(Kd.int .i64).C w A5 (rd_T70 xs i).f5.length (rd_T70 xs i).f5:=by
 obtain⟨ad,c,e,_,hK,hc0⟩:=Kd.C_get h z70 i h0 h1;have hc: ∀j u,c[j]? =some u→w.cell? (ad.add (i.toNat*6+j))=some u:=hc0;obtain⟨A2,c2,A5,c5,rfl,l2,g2,l5,g5⟩:=k70_open hK;exact⟨ad,A2,c2,A5,c5,e,hc 0 _ rfl,by rw[←add_field _ _ 1 (by omega)];exact hc 1 _ rfl,by rw[←add_field _ _ 2 (by omega)];exact hc 2 _ rfl,by rw[←add_field _ _ 3 (by omega)];exact hc 3 _ rfl,by rw[←add_field _ _ 4 (by omega)];exact hc 4 _ rfl,by rw[←add_field _ _ 5 (by omega)];exact hc 5 _ rfl,l2,g2,l5,g5⟩
/-! #### struct type 72 -/
structure S72 where
 f0:ByteArray
 f1:ByteArray
def z72:S72:=⟨(⟨#[]⟩:ByteArray),(⟨#[]⟩:ByteArray)⟩
def k72:Kd S72:=Kd.iso (Kd.pair Kd.string Kd.string) (fun x:S72=>(x.f0,x.f1))
theorem k72_heap:Kd.Heap k72:=Kd.heap_iso _ (Kd.heap_pair Kd.heap_string Kd.heap_string)
theorem k72_open{w:World}{x:S72}{cs:List Value}(h:k72.K w x cs):cs= [.string x.f0, .string x.f1]:=by
 obtain⟨_,_,rfl,rfl,rfl⟩:=h;exact rfl
theorem k72_openM{w:World}{base:Nat}{ok:Nat→Prop}{x:S72}{cs:List Value}(h:k72.M w base ok x cs):cs= [.string x.f0, .string x.f1]:=by
 obtain⟨_,_,rfl,rfl,rfl⟩:=h;exact rfl
theorem k72_mk(w:World)(x:S72):k72.K w x [.string x.f0, .string x.f1]:=⟨[.string x.f0],[.string x.f1],rfl,rfl,rfl⟩
theorem k72_mkM(w:World)(base:Nat)(ok:Nat→Prop)(x:S72):k72.M w base ok x [.string x.f0, .string x.f1]:=⟨[.string x.f0],[.string x.f1],rfl,rfl,rfl⟩
theorem k72_mkF(W:World)(ok:Nat→Prop)(x:S72):Kd.FK k72 W ok x [.string x.f0, .string x.f1]:=fun W2 _=>k72_mk W2 x
def rd_T72(xs:List S72)(i:Int):S72:=xs.getD i.toNat z72
theorem at_T72{w:World}{A:Option Addr}{n:Nat}{xs:List S72}(h:Kd.C k72 w A n xs)(i:Int)(h0:0≤i)(h1:i<n): ∃ad,A=some ad∧w.cell? (ad.add (i.toNat*2))=some (.string (rd_T72 xs i).f0)∧w.cell? ⟨(ad.add (i.toNat*2)).block,(ad.add (i.toNat*2)).off+1,none⟩=some (.string (rd_T72 xs i).f1):=by
 obtain⟨ad,c,e,_,hK,hc0⟩:=Kd.C_get h z72 i h0 h1;have hc: ∀j u,c[j]? =some u→w.cell? (ad.add (i.toNat*2+j))=some u:=hc0;obtain rfl:=k72_open hK;exact⟨ad,e,hc 0 _ rfl,by rw[←add_field _ _ 1 (by omega)];exact hc 1 _ rfl⟩
def rd_L8(xs:List (List S72))(i:Int):(List S72):=xs.getD i.toNat ([]:List S72)
theorem at_L8{w:World}{A:Option Addr}{n:Nat}{xs:List (List S72)}(h:Kd.C (Kd.slice 72 k72) w A n xs)(i:Int)(h0:0≤i)(h1:i<n): ∃ad A0 c0,A=some ad∧w.cell? (ad.add i.toNat)=some (.slice A0 (rd_L8 xs i).length c0)∧(rd_L8 xs i).length≤c0∧k72.C w A0 (rd_L8 xs i).length (rd_L8 xs i):=by
 obtain⟨ad,c,e,_,hK,hc0⟩:=Kd.C_get h ([]:List S72) i h0 h1;have hc: ∀j u,c[j]? =some u→w.cell? (ad.add (i.toNat*1+j))=some u:=hc0;obtain⟨A0,c0,rfl,l0,g0⟩:=hK;exact⟨ad,A0,c0,e,by have hq:=hc 0 _ rfl;rwa [Nat.mul_one,Nat.add_zero]at hq,l0,g0⟩
/-! #### struct type 41 -/
structure S41 where
 f0:Int
 f1:ByteArray
 f2:(List S72)
 f3:ByteArray
 f4:Int
 f5:(List Int)
def z41:S41:=⟨(0:Int),(⟨#[]⟩:ByteArray),([]:List S72),(⟨#[]⟩:ByteArray),(0:Int),([]:List Int)⟩
def k41:Kd S41:=Kd.iso (Kd.pair (Kd.int .i64) (Kd.pair Kd.string (Kd.pair (Kd.slice 72 k72) (Kd.pair Kd.string (Kd.pair (Kd.int .i64) (Kd.slice 3 (Kd.int .i64))))))) (fun x:S41=>(x.f0,x.f1,x.f2,x.f3,x.f4,x.f5))
theorem k41_heap:Kd.Heap k41:=Kd.heap_iso _ (Kd.heap_pair (Kd.heap_int .i64) (Kd.heap_pair Kd.heap_string (Kd.heap_pair (Kd.heap_slice 72 k72_heap) (Kd.heap_pair Kd.heap_string (Kd.heap_pair (Kd.heap_int .i64) (Kd.heap_slice 3 (Kd.heap_int .i64)))))))
theorem k41_open{w:World}{x:S41}{cs:List Value}(h:k41.K w x cs): ∃A2 c2 A5 c5,cs= [.int .i64 x.f0, .string x.f1, .slice A2 x.f2.length c2, .string x.f3, .int .i64 x.f4, .slice A5 x.f5.length c5]∧x.f2.length≤c2∧k72.C w A2 x.f2.length x.f2∧x.f5.length≤c5∧(Kd.int .i64).C w A5 x.f5.length x.f5:=by
 obtain⟨_,_,rfl,rfl,⟨_,_,rfl,rfl,⟨_,_,rfl,⟨A2,c2,rfl,l2,g2⟩,⟨_,_,rfl,rfl,⟨_,_,rfl,rfl,⟨A5,c5,rfl,l5,g5⟩⟩⟩⟩⟩⟩:=h;exact⟨A2,c2,A5,c5,rfl,l2,g2,l5,g5⟩
theorem k41_openM{w:World}{base:Nat}{ok:Nat→Prop}{x:S41}{cs:List Value}(h:k41.M w base ok x cs): ∃v2 v5,cs= [.int .i64 x.f0, .string x.f1,v2, .string x.f3, .int .i64 x.f4,v5]∧k72.R 72 w base ok v2 x.f2∧(Kd.int .i64).R 3 w base ok v5 x.f5:=by
 obtain⟨_,_,rfl,rfl,⟨_,_,rfl,rfl,⟨_,_,rfl,⟨v2,rfl,g2⟩,⟨_,_,rfl,rfl,⟨_,_,rfl,rfl,⟨v5,rfl,g5⟩⟩⟩⟩⟩⟩:=h;exact⟨v2,v5,rfl,g2,g5⟩
theorem k41_mk(w:World)(x:S41){A2:Option Addr}{c2:Nat}(l2:x.f2.length≤c2)(g2:k72.C w A2 x.f2.length x.f2){A5:Option Addr}{c5:Nat}(l5:x.f5.length≤c5)(g5:(Kd.int .i64).C w A5 x.f5.length x.f5):k41.K w x [.int .i64 x.f0, .string x.f1, .slice A2 x.f2.length c2, .string x.f3, .int .i64 x.f4, .slice A5 x.f5.length c5]:=⟨[.int .i64 x.f0],[.string x.f1, .slice A2 x.f2.length c2, .string x.f3, .int .i64 x.f4, .slice A5 x.f5.length c5],rfl,rfl,⟨[.string x.f1],[.slice A2 x.f2.length c2, .string x.f3, .int .i64 x.f4, .slice A5 x.f5.length c5],rfl,rfl,⟨[.slice A2 x.f2.length c2],[.string x.f3, .int .i64 x.f4, .slice A5 x.f5.length c5],rfl,⟨A2,c2,rfl,l2,g2⟩,⟨[.string x.f3],[.int .i64 x.f4, .slice A5 x.f5.length c5],rfl,rfl,⟨[.int .i64 x.f4],[.slice A5 x.f5.length c5],rfl,rfl,⟨A5,c5,rfl,l5,g5⟩⟩⟩⟩⟩⟩
theorem k41_mkM(w:World)(base:Nat)(ok:Nat→Prop)(x:S41){v2:Value}(g2:k72.R 72 w base ok v2 x.f2){v5:Value}(g5:(Kd.int .i64).R 3 w base ok v5 x.f5):k41.M w base ok x [.int .i64 x.f0, .string x.f1,v2, .string x.f3, .int .i64 x.f4,v5]:=⟨[.int .i64 x.f0],[.string x.f1,v2, .string x.f3, .int .i64 x.f4,v5],rfl,rfl,⟨[.string x.f1],[v2, .string x.f3, .int .i64 x.f4,v5],rfl,rfl,⟨[v2],[.string x.f3, .int .i64 x.f4,v5],rfl,⟨v2,rfl,g2⟩,⟨[.string x.f3],[.int .i64 x.f4,v5],rfl,rfl,⟨[.int .i64 x.f4],[v5],rfl,rfl,⟨v5,rfl,g5⟩⟩⟩⟩⟩⟩
theorem k41_openF{W:World}{ok:Nat→Prop}{x:S41}{cs:List Value}(h:Kd.FK k41 W ok x cs): ∃A2 c2 A5 c5,cs= [.int .i64 x.f0, .string x.f1, .slice A2 x.f2.length c2, .string x.f3, .int .i64 x.f4, .slice A5 x.f5.length c5]∧x.f2.length≤c2∧Kd.F k72 W ok A2 x.f2.length x.f2∧x.f5.length≤c5∧Kd.F (Kd.int .i64) W ok A5 x.f5.length x.f5:=by
 obtain⟨A2,c2,A5,c5,rfl,l2,_,l5,_⟩:=k41_open (Kd.FK_now h);exact⟨A2,c2,A5,c5,rfl,l2,(fun W' hW=>by obtain⟨A2_,c2_,A5_,c5_,he,l2_,g2_,l5_,g5_⟩:=k41_open (h W' hW);injection (Oi (show some (Value.slice A2 x.f2.length c2)=some (Value.slice A2_ x.f2.length c2_)from congrArg (fun l=>l[2]?) he))with ha_ _ _;rw[ha_];exact g2_),l5,(fun W' hW=>by obtain⟨A2_,c2_,A5_,c5_,he,l2_,g2_,l5_,g5_⟩:=k41_open (h W' hW);injection (Oi (show some (Value.slice A5 x.f5.length c5)=some (Value.slice A5_ x.f5.length c5_)from congrArg (fun l=>l[5]?) he))with ha_ _ _;rw[ha_];exact g5_)⟩
theorem k41_mkF(W:World)(ok:Nat→Prop)(x:S41){A2:Option Addr}{c2:Nat}(l2:x.f2.length≤c2)(g2:Kd.F k72 W ok A2 x.f2.length x.f2){A5:Option Addr}{c5:Nat}(l5:x.f5.length≤c5)(g5:Kd.F (Kd.int .i64) W ok A5 x.f5.length x.f5):Kd.FK k41 W ok x [.int .i64 x.f0, .string x.f1, .slice A2 x.f2.length c2, .string x.f3, .int .i64 x.f4, .slice A5 x.f5.length c5]:=fun W2 hW=>k41_mk W2 x l2 (g2 W2 hW) l5 (g5 W2 hW)
def rd_T41(xs:List S41)(i:Int):S41:=xs.getD i.toNat z41
theorem at_T41{w:World}{A:Option Addr}{n:Nat}{xs:List S41}(h:Kd.C k41 w A n xs)(i:Int)(h0:0≤i)(h1:i<n): ∃ad A2 c2 A5 c5,A=some ad∧w.cell? (ad.add (i.toNat*6))=some (.int .i64 (rd_T41 xs i).f0)∧w.cell? ⟨(ad.add (i.toNat*6)).block,(ad.add (i.toNat*6)).off+1,none⟩=some (.string (rd_T41 xs i).f1)∧w.cell? ⟨(ad.add (i.toNat*6)).block,(ad.add (i.toNat*6)).off+2,none⟩=some (.slice A2 (rd_T41 xs i).f2.length c2)∧w.cell? ⟨(ad.add (i.toNat*6)).block,(ad.add (i.toNat*6)).off+3,none⟩=some (.string (rd_T41 xs i).f3)∧w.cell? ⟨(ad.add (i.toNat*6)).block,(ad.add (i.toNat*6)).off+4,none⟩=some (.int .i64 (rd_T41 xs i).f4)∧w.cell? ⟨(ad.add (i.toNat*6)).block,(ad.add (i.toNat*6)).off+5,none⟩=some (.slice A5 (rd_T41 xs i).f5.length c5)∧(rd_T41 xs i).f2.length≤c2∧k72.C w A2 (rd_T41 xs i).f2.length (rd_T41 xs i).f2∧(rd_T41 xs i).f5.length≤c5∧(Kd.int .i64).C w A5 (rd_T41 xs i).f5.length (rd_T41 xs i).f5:=by
 obtain⟨ad,c,e,_,hK,hc0⟩:=Kd.C_get h z41 i h0 h1;have hc: ∀j u,c[j]? =some u→w.cell? (ad.add (i.toNat*6+j))=some u:=hc0;obtain⟨A2,c2,A5,c5,rfl,l2,g2,l5,g5⟩:=k41_open hK;exact⟨ad,A2,c2,A5,c5,e,hc 0 _ rfl,by rw[←add_field _ _ 1 (by omega)];exact hc 1 _ rfl,by rw[←add_field _ _ 2 (by omega)];exact hc 2 _ rfl,by rw[←add_field _ _ 3 (by omega)];exact hc 3 _ rfl,by rw[←add_field _ _ 4 (by omega)];exact hc 4 _ rfl,by rw[←add_field _ _ 5 (by omega)];exact hc 5 _ rfl,l2,g2,l5,g5⟩
def rd_L10(xs:List (List S41))(i:Int):(List S41):=xs.getD i.toNat ([]:List S41)
theorem at_L10{w:World}{A:Option Addr}{n:Nat}{xs:List (List S41)}(h:Kd.C (Kd.slice 41 k41) w A n xs)(i:Int)(h0:0≤i)(h1:i<n): ∃ad A0 c0,A=some ad∧w.cell? (ad.add i.toNat)=some (.slice A0 (rd_L10 xs i).length c0)∧(rd_L10 xs i).length≤c0∧k41.C w A0 (rd_L10 xs i).length (rd_L10 xs i):=by
 obtain⟨ad,c,e,_,hK,hc0⟩:=Kd.C_get h ([]:List S41) i h0 h1;have hc: ∀j u,c[j]? =some u→w.cell? (ad.add (i.toNat*1+j))=some u:=hc0;obtain⟨A0,c0,rfl,l0,g0⟩:=hK;exact⟨ad,A0,c0,e,by have hq:=hc 0 _ rfl;rwa [Nat.mul_one,Nat.add_zero]at hq,l0,g0⟩
/-! #### struct type 29 -/
structure S29 where
 f0:(List S41)
def z29:S29:=⟨([]:List S41)⟩
def k29:Kd S29:=Kd.iso (Kd.slice 41 k41) (fun x:S29=>x.f0)
theorem k29_heap:Kd.Heap k29:=Kd.heap_iso _ (Kd.heap_slice 41 k41_heap)
theorem k29_open{w:World}{x:S29}{cs:List Value}(h:k29.K w x cs): ∃A0 c0,cs= [.slice A0 x.f0.length c0]∧x.f0.length≤c0∧k41.C w A0 x.f0.length x.f0:=by
 obtain⟨A0,c0,rfl,l0,g0⟩:=h;exact⟨A0,c0,rfl,l0,g0⟩
theorem k29_openM{w:World}{base:Nat}{ok:Nat→Prop}{x:S29}{cs:List Value}(h:k29.M w base ok x cs): ∃v0,cs= [v0]∧k41.R 41 w base ok v0 x.f0:=by
 obtain⟨v0,rfl,g0⟩:=h;exact⟨v0,rfl,g0⟩
theorem k29_mk(w:World)(x:S29){A0:Option Addr}{c0:Nat}(l0:x.f0.length≤c0)(g0:k41.C w A0 x.f0.length x.f0):k29.K w x [.slice A0 x.f0.length c0]:=⟨A0,c0,rfl,l0,g0⟩
theorem k29_mkM(w:World)(base:Nat)(ok:Nat→Prop)(x:S29){v0:Value}(g0:k41.R 41 w base ok v0 x.f0):k29.M w base ok x [v0]:=⟨v0,rfl,g0⟩
theorem k29_openF{W:World}{ok:Nat→Prop}{x:S29}{cs:List Value}(h:Kd.FK k29 W ok x cs): ∃A0 c0,cs= [.slice A0 x.f0.length c0]∧x.f0.length≤c0∧Kd.F k41 W ok A0 x.f0.length x.f0:=by
 obtain⟨A0,c0,rfl,l0,_⟩:=k29_open (Kd.FK_now h);exact⟨A0,c0,rfl,l0,(fun W' hW=>by obtain⟨A0_,c0_,he,l0_,g0_⟩:=k29_open (h W' hW);injection (Oi (show some (Value.slice A0 x.f0.length c0)=some (Value.slice A0_ x.f0.length c0_)from congrArg (fun l=>l[0]?) he))with ha_ _ _;rw[ha_];exact g0_)⟩
theorem k29_mkF(W:World)(ok:Nat→Prop)(x:S29){A0:Option Addr}{c0:Nat}(l0:x.f0.length≤c0)(g0:Kd.F k41 W ok A0 x.f0.length x.f0):Kd.FK k29 W ok x [.slice A0 x.f0.length c0]:=fun W2 hW=>k29_mk W2 x l0 (g0 W2 hW)
def rd_T29(xs:List S29)(i:Int):S29:=xs.getD i.toNat z29
theorem at_T29{w:World}{A:Option Addr}{n:Nat}{xs:List S29}(h:Kd.C k29 w A n xs)(i:Int)(h0:0≤i)(h1:i<n): ∃ad A0 c0,A=some ad∧w.cell? (ad.add i.toNat)=some (.slice A0 (rd_T29 xs i).f0.length c0)∧(rd_T29 xs i).f0.length≤c0∧k41.C w A0 (rd_T29 xs i).f0.length (rd_T29 xs i).f0:=by
 obtain⟨ad,c,e,_,hK,hc0⟩:=Kd.C_get h z29 i h0 h1;have hc: ∀j u,c[j]? =some u→w.cell? (ad.add (i.toNat*1+j))=some u:=hc0;obtain⟨A0,c0,rfl,l0,g0⟩:=k29_open hK;exact⟨ad,A0,c0,e,by have hq:=hc 0 _ rfl;rwa [Nat.mul_one,Nat.add_zero]at hq,l0,g0⟩
def rd_L13(xs:List (List S70))(i:Int):(List S70):=xs.getD i.toNat ([]:List S70)
theorem at_L13{w:World}{A:Option Addr}{n:Nat}{xs:List (List S70)}(h:Kd.C (Kd.slice 70 k70) w A n xs)(i:Int)(h0:0≤i)(h1:i<n): ∃ad A0 c0,A=some ad∧w.cell? (ad.add i.toNat)=some (.slice A0 (rd_L13 xs i).length c0)∧(rd_L13 xs i).length≤c0∧k70.C w A0 (rd_L13 xs i).length (rd_L13 xs i):=by
 obtain⟨ad,c,e,_,hK,hc0⟩:=Kd.C_get h ([]:List S70) i h0 h1;have hc: ∀j u,c[j]? =some u→w.cell? (ad.add (i.toNat*1+j))=some u:=hc0;obtain⟨A0,c0,rfl,l0,g0⟩:=hK;exact⟨ad,A0,c0,e,by have hq:=hc 0 _ rfl;rwa [Nat.mul_one,Nat.add_zero]at hq,l0,g0⟩
def rd_L14(xs:List (List Int))(i:Int):(List Int):=xs.getD i.toNat ([]:List Int)
theorem at_L14{w:World}{A:Option Addr}{n:Nat}{xs:List (List Int)}(h:Kd.C (Kd.slice 5 (Kd.int .u8)) w A n xs)(i:Int)(h0:0≤i)(h1:i<n): ∃ad A0 c0,A=some ad∧w.cell? (ad.add i.toNat)=some (.slice A0 (rd_L14 xs i).length c0)∧(rd_L14 xs i).length≤c0∧(Kd.int .u8).C w A0 (rd_L14 xs i).length (rd_L14 xs i):=by
 obtain⟨ad,c,e,_,hK,hc0⟩:=Kd.C_get h ([]:List Int) i h0 h1;have hc: ∀j u,c[j]? =some u→w.cell? (ad.add (i.toNat*1+j))=some u:=hc0;obtain⟨A0,c0,rfl,l0,g0⟩:=hK;exact⟨ad,A0,c0,e,by have hq:=hc 0 _ rfl;rwa [Nat.mul_one,Nat.add_zero]at hq,l0,g0⟩
/-! #### struct type 24 -/
structure S24 where
 f0:(List S70)
def z24:S24:=⟨([]:List S70)⟩
def k24:Kd S24:=Kd.iso (Kd.slice 70 k70) (fun x:S24=>x.f0)
theorem k24_heap:Kd.Heap k24:=Kd.heap_iso _ (Kd.heap_slice 70 k70_heap)
theorem k24_open{w:World}{x:S24}{cs:List Value}(h:k24.K w x cs): ∃A0 c0,cs= [.slice A0 x.f0.length c0]∧x.f0.length≤c0∧k70.C w A0 x.f0.length x.f0:=by
 obtain⟨A0,c0,rfl,l0,g0⟩:=h;exact⟨A0,c0,rfl,l0,g0⟩
theorem k24_openM{w:World}{base:Nat}{ok:Nat→Prop}{x:S24}{cs:List Value}(h:k24.M w base ok x cs): ∃v0,cs= [v0]∧k70.R 70 w base ok v0 x.f0:=by
 obtain⟨v0,rfl,g0⟩:=h;exact⟨v0,rfl,g0⟩
theorem k24_mk(w:World)(x:S24){A0:Option Addr}{c0:Nat}(l0:x.f0.length≤c0)(g0:k70.C w A0 x.f0.length x.f0):k24.K w x [.slice A0 x.f0.length c0]:=⟨A0,c0,rfl,l0,g0⟩
theorem k24_mkM(w:World)(base:Nat)(ok:Nat→Prop)(x:S24){v0:Value}(g0:k70.R 70 w base ok v0 x.f0):k24.M w base ok x [v0]:=⟨v0,rfl,g0⟩
theorem k24_openF{W:World}{ok:Nat→Prop}{x:S24}{cs:List Value}(h:Kd.FK k24 W ok x cs): ∃A0 c0,cs= [.slice A0 x.f0.length c0]∧x.f0.length≤c0∧Kd.F k70 W ok A0 x.f0.length x.f0:=by
 obtain⟨A0,c0,rfl,l0,_⟩:=k24_open (Kd.FK_now h);exact⟨A0,c0,rfl,l0,(fun W' hW=>by obtain⟨A0_,c0_,he,l0_,g0_⟩:=k24_open (h W' hW);injection (Oi (show some (Value.slice A0 x.f0.length c0)=some (Value.slice A0_ x.f0.length c0_)from congrArg (fun l=>l[0]?) he))with ha_ _ _;rw[ha_];exact g0_)⟩
theorem k24_mkF(W:World)(ok:Nat→Prop)(x:S24){A0:Option Addr}{c0:Nat}(l0:x.f0.length≤c0)(g0:Kd.F k70 W ok A0 x.f0.length x.f0):Kd.FK k24 W ok x [.slice A0 x.f0.length c0]:=fun W2 hW=>k24_mk W2 x l0 (g0 W2 hW)
def rd_T24(xs:List S24)(i:Int):S24:=xs.getD i.toNat z24
theorem at_T24{w:World}{A:Option Addr}{n:Nat}{xs:List S24}(h:Kd.C k24 w A n xs)(i:Int)(h0:0≤i)(h1:i<n): ∃ad A0 c0,A=some ad∧w.cell? (ad.add i.toNat)=some (.slice A0 (rd_T24 xs i).f0.length c0)∧(rd_T24 xs i).f0.length≤c0∧k70.C w A0 (rd_T24 xs i).f0.length (rd_T24 xs i).f0:=by
 obtain⟨ad,c,e,_,hK,hc0⟩:=Kd.C_get h z24 i h0 h1;have hc: ∀j u,c[j]? =some u→w.cell? (ad.add (i.toNat*1+j))=some u:=hc0;obtain⟨A0,c0,rfl,l0,g0⟩:=k24_open hK;exact⟨ad,A0,c0,e,by have hq:=hc 0 _ rfl;rwa [Nat.mul_one,Nat.add_zero]at hq,l0,g0⟩
def spec_l1In.f(a0:Int)(a1:Int)(a2:Int):Option (Bool):=if a0≥a1 then(some (decide (a0≤a2)))else(some false)
theorem spec_l1In.calls(a0:Int)(a1:Int)(a2:Int)(r:Bool)(w:World)(h:spec_l1In.f a0 a1 a2=some r):
 Calls Tryz.prog 27 #[.int .i64 a0, .int .i64 a1, .int .i64 a2] w fun e w'=>e= .returned (.bool r)∧Drawn0 w w':=by
 have H:(if a0≥a1 then(some (decide (a0≤a2)))else(some false))=some r:=h;clear h;by_cases c4:a0≥a1
 ·rw[if_pos c4]at H;have c4b0:decide (a1≤a0)=true:=decide_eq_true c4;clear c4;obtain rfl:=Oi H;go_enter Tryz.func27,Tryz.ntmps27;go_wp2;go_ret;exact⟨rfl,by repeat(first|exact Drawn0.refl _|apply Drawn0.step)⟩
 ·rw[if_neg c4]at H;have c4b0:decide (a1≤a0)=false:=decide_eq_false c4;clear c4;obtain rfl:=Oi H;go_enter Tryz.func27,Tryz.ntmps27;go_wp2;go_ret;exact⟨rfl,by repeat(first|exact Drawn0.refl _|apply Drawn0.step)⟩
def spec_PointOk.f(a0:Int):Option (Bool):=(spec_l1In.f a0 0 1114111).bind fun t101=>(if t101=true then((spec_l1In.f a0 55296 57343).bind fun t102=>(some (!t102)))else(some false))
theorem spec_PointOk.calls(a0:Int)(r:Bool)(w:World)(h:spec_PointOk.f a0=some r):
 Calls Tryz.prog 141 #[.int .i64 a0] w fun e w'=>e= .returned (.bool r)∧Drawn0 w w':=by
 have H:((spec_l1In.f a0 0 1114111).bind fun t101=>(if t101=true then((spec_l1In.f a0 55296 57343).bind fun t102=>(some (!t102)))else(some false)))=some r:=h;clear h;replace H:=Ob H;obtain⟨t101,A20,H⟩:=H;replace H:(if t101=true then((spec_l1In.f a0 55296 57343).bind fun t102=>(some (!t102)))else(some false))=some r:=H;have A2:=Ak A20;clear A20;by_cases c3:t101=true
 ·subst c3;rw[if_pos rfl]at H;replace H:=Ob H;obtain⟨t102,A40,H⟩:=H;replace H:(some (!t102))=some r:=H;have A4:=Ak A40;clear A40;obtain rfl:=Oi H;go_enter Tryz.func141,Tryz.ntmps141;go_wp2_with (first|(go_at_call 27;(with_reducible refine(spec_l1In.calls a0 0 1114111 true _ A2.out).mono ?_);rintro e w' ⟨rfl,⟨nd,rfl⟩⟩)|(go_at_call 27;(with_reducible refine(spec_l1In.calls a0 55296 57343 t102 _ A4.out).mono ?_);rintro e w' ⟨rfl,⟨nd,rfl⟩⟩));go_ret;exact⟨rfl,by repeat(first|exact Drawn0.refl _|apply Drawn0.step)⟩
 ·replace c3:=Bool.eq_false_iff.mpr c3;subst c3;rw[if_neg (show ¬(false=true)by decide)]at H;obtain rfl:=Oi H;go_enter Tryz.func141,Tryz.ntmps141;go_wp2_with (first|(go_at_call 27;(with_reducible refine(spec_l1In.calls a0 0 1114111 false _ A2.out).mono ?_);rintro e w' ⟨rfl,⟨nd,rfl⟩⟩));go_ret;exact⟨rfl,by repeat(first|exact Drawn0.refl _|apply Drawn0.step)⟩
def spec_l1Point.f(a0:Int):Option (Int):=(spec_PointOk.f a0).bind fun t101=>(if t101=true then(some a0)else(some 65533))
theorem spec_l1Point.calls(a0:Int)(r:Int)(w:World)(h:spec_l1Point.f a0=some r):
 Calls Tryz.prog 135 #[.int .i64 a0] w fun e w'=>e= .returned (.int .i64 r)∧Drawn0 w w':=by
 have H:((spec_PointOk.f a0).bind fun t101=>(if t101=true then(some a0)else(some 65533)))=some r:=h;clear h;replace H:=Ob H;obtain⟨t101,A20,H⟩:=H;replace H:(if t101=true then(some a0)else(some 65533))=some r:=H;have A2:=Ak A20;clear A20;by_cases c3:t101=true
 ·subst c3;rw[if_pos rfl]at H;obtain rfl:=Oi H;go_enter Tryz.func135,Tryz.ntmps135;go_wp2_with (first|(go_at_call 141;(with_reducible refine(spec_PointOk.calls a0 true _ A2.out).mono ?_);rintro e w' ⟨rfl,⟨nd,rfl⟩⟩));go_ret;exact⟨rfl,by repeat(first|exact Drawn0.refl _|apply Drawn0.step)⟩
 ·replace c3:=Bool.eq_false_iff.mpr c3;subst c3;rw[if_neg (show ¬(false=true)by decide)]at H;obtain rfl:=Oi H;go_enter Tryz.func135,Tryz.ntmps135;go_wp2_with (first|(go_at_call 141;(with_reducible refine(spec_PointOk.calls a0 false _ A2.out).mono ?_);rintro e w' ⟨rfl,⟨nd,rfl⟩⟩));go_ret;exact⟨rfl,by repeat(first|exact Drawn0.refl _|apply Drawn0.step)⟩
def spec_PointPut.f(a0:Int):Option (List Int):=(spec_l1Point.f a0).bind fun t101=>(if t101<128 then(some (([(t101) % 256]:List Int)))else(if t101<2048 then(some (([(wrap64 (192+(wrap64 (Int.tdiv t101 64)))) % 256,(wrap64 (128+(Int.tmod t101 64))) % 256]:List Int)))else(if t101<65536 then(some (([(wrap64 (224+(wrap64 (Int.tdiv t101 4096)))) % 256,(wrap64 (128+(Int.tmod (wrap64 (Int.tdiv t101 64)) 64))) % 256,(wrap64 (128+(Int.tmod t101 64))) % 256]:List Int)))else(some (([(wrap64 (240+(wrap64 (Int.tdiv t101 262144)))) % 256,(wrap64 (128+(Int.tmod (wrap64 (Int.tdiv t101 4096)) 64))) % 256,(wrap64 (128+(Int.tmod (wrap64 (Int.tdiv t101 64)) 64))) % 256,(wrap64 (128+(Int.tmod t101 64))) % 256]:List Int))))))
theorem spec_PointPut.calls(a0:Int)(r:List Int)(w:World)(h:spec_PointPut.f a0=some r):
 Calls Tryz.prog 123 #[.int .i64 a0] w fun e w'=> ∃v0_:Value,e= .returned (v0_)∧Kd.R (Kd.int .u8) 5 w' w.heap.size (fun _=>True) v0_ r∧Below w.heap.size w w':=by
 have HB:=Ak (Below.refl w.heap.size w);have H:((spec_l1Point.f a0).bind fun t101=>(if t101<128 then(some (([(t101) % 256]:List Int)))else(if t101<2048 then(some (([(wrap64 (192+(wrap64 (Int.tdiv t101 64)))) % 256,(wrap64 (128+(Int.tmod t101 64))) % 256]:List Int)))else(if t101<65536 then(some (([(wrap64 (224+(wrap64 (Int.tdiv t101 4096)))) % 256,(wrap64 (128+(Int.tmod (wrap64 (Int.tdiv t101 64)) 64))) % 256,(wrap64 (128+(Int.tmod t101 64))) % 256]:List Int)))else(some (([(wrap64 (240+(wrap64 (Int.tdiv t101 262144)))) % 256,(wrap64 (128+(Int.tmod (wrap64 (Int.tdiv t101 4096)) 64))) % 256,(wrap64 (128+(Int.tmod (wrap64 (Int.tdiv t101 64)) 64))) % 256,(wrap64 (128+(Int.tmod t101 64))) % 256]:List Int)))))))=some r:=h;clear h;replace H:=Ob H;obtain⟨t101,A20,H⟩:=H;replace H:(if t101<128 then(some (([(t101) % 256]:List Int)))else(if t101<2048 then(some (([(wrap64 (192+(wrap64 (Int.tdiv t101 64)))) % 256,(wrap64 (128+(Int.tmod t101 64))) % 256]:List Int)))else(if t101<65536 then(some (([(wrap64 (224+(wrap64 (Int.tdiv t101 4096)))) % 256,(wrap64 (128+(Int.tmod (wrap64 (Int.tdiv t101 64)) 64))) % 256,(wrap64 (128+(Int.tmod t101 64))) % 256]:List Int)))else(some (([(wrap64 (240+(wrap64 (Int.tdiv t101 262144)))) % 256,(wrap64 (128+(Int.tmod (wrap64 (Int.tdiv t101 4096)) 64))) % 256,(wrap64 (128+(Int.tmod (wrap64 (Int.tdiv t101 64)) 64))) % 256,(wrap64 (128+(Int.tmod t101 64))) % 256]:List Int))))))=some r:=H;have A2:=Ak A20;clear A20;by_cases c3:t101<128
 ·rw[if_pos c3]at H;have c3b0:=decide_eq_true c3;clear c3;obtain⟨y102,hy102⟩: ∃y_:List Int,y_=(([(t101) % 256]:List Int)):=⟨_,rfl⟩
  replace H:(some y102)=some r:=by rw[hy102];exact H
  have Ny102:=Ak hy102;clear hy102;obtain rfl:=Oi H;go_enter Tryz.func123,Tryz.ntmps123;go_wp2_with (first|(go_at_call 135;(with_reducible refine(spec_l1Point.calls a0 t101 _ A2.out).mono ?_);rintro e w' ⟨rfl,⟨nd,rfl⟩⟩)|((with_reducible refine gate_dst (N:=10) rfl ?_);refine Kd.R_lit (Kd.int .u8) _ 5 ?hg (N:=10) ?hd (xs:=([(t101) % 256]:List Int)) (inner:= [.int .u8 ((t101) % 256)]) (ok:=fun _=>True) (okp:=fun _=>True) ?hr ?hp (fun _ hk=>hk) trivial (Below.refl _ _) (Nat.le_refl _) (by simp) ?_;(case hd=>rfl);(case hg=>rfl);(case hr=>go_simp);(case hp=>exact(Reps.one (show Kd.M (Kd.int .u8) _ _ _ ((t101) % 256) [.int .u8 ((t101) % 256)]from rfl) (Reps.none _ _)));intro v103 w4 ho5 hb hg_ hnew_;clear hg_ hnew_;(first|rw[←Ny102.out]at ho5|(simp only[Int.reduceToNat]at ho5;rw[←Ny102.out]at ho5));replace HO104:=Ak (Kd.R_lower ho5 (below_size (by repeat(first|exact HB.out|apply below_alloc|apply pw_below_drewN|apply below_drew1))));replace HB:=Ak (below_step (by repeat(first|exact HB.out|apply below_alloc|apply pw_below_drewN|apply below_drew1)) hb);clear hb ho5));go_ret;exact⟨_,rfl,by(with_reducible repeat(first|apply Kd.R_alloc|apply Kd.R_drewN|apply Kd.R_drew));exact HO104.out,by repeat(first|exact HB.out|apply below_alloc|apply pw_below_drewN|apply below_drew1)⟩
 ·rw[if_neg c3]at H;have c3b0:=decide_eq_false c3;clear c3;by_cases c6:t101<2048
  ·rw[if_pos c6]at H;have c6b0:=decide_eq_true c6;clear c6;obtain⟨y105,hy105⟩: ∃y_:List Int,y_=(([(wrap64 (192+(wrap64 (Int.tdiv t101 64)))) % 256,(wrap64 (128+(Int.tmod t101 64))) % 256]:List Int)):=⟨_,rfl⟩
   replace H:(some y105)=some r:=by rw[hy105];exact H
   have Ny105:=Ak hy105;clear hy105;obtain rfl:=Oi H;go_enter Tryz.func123,Tryz.ntmps123;go_wp2_with (first|(go_at_call 135;(with_reducible refine(spec_l1Point.calls a0 t101 _ A2.out).mono ?_);rintro e w' ⟨rfl,⟨nd,rfl⟩⟩)|((with_reducible refine gate_dst (N:=22) rfl ?_);refine Kd.R_lit (Kd.int .u8) _ 5 ?hg (N:=22) ?hd (xs:=([(wrap64 (192+(wrap64 (Int.tdiv t101 64)))) % 256,(wrap64 (128+(Int.tmod t101 64))) % 256]:List Int)) (inner:= [.int .u8 ((wrap64 (192+(wrap64 (Int.tdiv t101 64)))) % 256), .int .u8 ((wrap64 (128+(Int.tmod t101 64))) % 256)]) (ok:=fun _=>True) (okp:=fun _=>True) ?hr ?hp (fun _ hk=>hk) trivial (Below.refl _ _) (Nat.le_refl _) (by simp) ?_;(case hd=>rfl);(case hg=>rfl);(case hr=>go_simp);(case hp=>exact(Reps.one (show Kd.M (Kd.int .u8) _ _ _ ((wrap64 (192+(wrap64 (Int.tdiv t101 64)))) % 256) [.int .u8 ((wrap64 (192+(wrap64 (Int.tdiv t101 64)))) % 256)]from rfl) (Reps.one (show Kd.M (Kd.int .u8) _ _ _ ((wrap64 (128+(Int.tmod t101 64))) % 256) [.int .u8 ((wrap64 (128+(Int.tmod t101 64))) % 256)]from rfl) (Reps.none _ _))));intro v106 w7 ho8 hb hg_ hnew_;clear hg_ hnew_;(first|rw[←Ny105.out]at ho8|(simp only[Int.reduceToNat]at ho8;rw[←Ny105.out]at ho8));replace HO107:=Ak (Kd.R_lower ho8 (below_size (by repeat(first|exact HB.out|apply below_alloc|apply pw_below_drewN|apply below_drew1))));replace HB:=Ak (below_step (by repeat(first|exact HB.out|apply below_alloc|apply pw_below_drewN|apply below_drew1)) hb);clear hb ho8));go_ret;exact⟨_,rfl,by(with_reducible repeat(first|apply Kd.R_alloc|apply Kd.R_drewN|apply Kd.R_drew));exact HO107.out,by repeat(first|exact HB.out|apply below_alloc|apply pw_below_drewN|apply below_drew1)⟩
  ·rw[if_neg c6]at H;have c6b0:=decide_eq_false c6;clear c6;by_cases c9:t101<65536
   ·rw[if_pos c9]at H;have c9b0:=decide_eq_true c9;clear c9;obtain⟨y108,hy108⟩: ∃y_:List Int,y_=(([(wrap64 (224+(wrap64 (Int.tdiv t101 4096)))) % 256,(wrap64 (128+(Int.tmod (wrap64 (Int.tdiv t101 64)) 64))) % 256,(wrap64 (128+(Int.tmod t101 64))) % 256]:List Int)):=⟨_,rfl⟩
    replace H:(some y108)=some r:=by rw[hy108];exact H
    have Ny108:=Ak hy108;clear hy108;obtain rfl:=Oi H;go_enter Tryz.func123,Tryz.ntmps123;go_wp2_with (first|(go_at_call 135;(with_reducible refine(spec_l1Point.calls a0 t101 _ A2.out).mono ?_);rintro e w' ⟨rfl,⟨nd,rfl⟩⟩)|((with_reducible refine gate_dst (N:=39) rfl ?_);refine Kd.R_lit (Kd.int .u8) _ 5 ?hg (N:=39) ?hd (xs:=([(wrap64 (224+(wrap64 (Int.tdiv t101 4096)))) % 256,(wrap64 (128+(Int.tmod (wrap64 (Int.tdiv t101 64)) 64))) % 256,(wrap64 (128+(Int.tmod t101 64))) % 256]:List Int)) (inner:= [.int .u8 ((wrap64 (224+(wrap64 (Int.tdiv t101 4096)))) % 256), .int .u8 ((wrap64 (128+(Int.tmod (wrap64 (Int.tdiv t101 64)) 64))) % 256), .int .u8 ((wrap64 (128+(Int.tmod t101 64))) % 256)]) (ok:=fun _=>True) (okp:=fun _=>True) ?hr ?hp (fun _ hk=>hk) trivial (Below.refl _ _) (Nat.le_refl _) (by simp) ?_;(case hd=>rfl);(case hg=>rfl);(case hr=>go_simp);(case hp=>exact(Reps.one (show Kd.M (Kd.int .u8) _ _ _ ((wrap64 (224+(wrap64 (Int.tdiv t101 4096)))) % 256) [.int .u8 ((wrap64 (224+(wrap64 (Int.tdiv t101 4096)))) % 256)]from rfl) (Reps.one (show Kd.M (Kd.int .u8) _ _ _ ((wrap64 (128+(Int.tmod (wrap64 (Int.tdiv t101 64)) 64))) % 256) [.int .u8 ((wrap64 (128+(Int.tmod (wrap64 (Int.tdiv t101 64)) 64))) % 256)]from rfl) (Reps.one (show Kd.M (Kd.int .u8) _ _ _ ((wrap64 (128+(Int.tmod t101 64))) % 256) [.int .u8 ((wrap64 (128+(Int.tmod t101 64))) % 256)]from rfl) (Reps.none _ _)))));intro v109 w10 ho11 hb hg_ hnew_;clear hg_ hnew_;(first|rw[←Ny108.out]at ho11|(simp only[Int.reduceToNat]at ho11;rw[←Ny108.out]at ho11));replace HO110:=Ak (Kd.R_lower ho11 (below_size (by repeat(first|exact HB.out|apply below_alloc|apply pw_below_drewN|apply below_drew1))));replace HB:=Ak (below_step (by repeat(first|exact HB.out|apply below_alloc|apply pw_below_drewN|apply below_drew1)) hb);clear hb ho11));go_ret;exact⟨_,rfl,by(with_reducible repeat(first|apply Kd.R_alloc|apply Kd.R_drewN|apply Kd.R_drew));exact HO110.out,by repeat(first|exact HB.out|apply below_alloc|apply pw_below_drewN|apply below_drew1)⟩
   ·rw[if_neg c9]at H;have c9b0:=decide_eq_false c9;clear c9;obtain⟨y111,hy111⟩: ∃y_:List Int,y_=(([(wrap64 (240+(wrap64 (Int.tdiv t101 262144)))) % 256,(wrap64 (128+(Int.tmod (wrap64 (Int.tdiv t101 4096)) 64))) % 256,(wrap64 (128+(Int.tmod (wrap64 (Int.tdiv t101 64)) 64))) % 256,(wrap64 (128+(Int.tmod t101 64))) % 256]:List Int)):=⟨_,rfl⟩
    replace H:(some y111)=some r:=by rw[hy111];exact H
    have Ny111:=Ak hy111;clear hy111;obtain rfl:=Oi H;go_enter Tryz.func123,Tryz.ntmps123;go_wp2_with (first|(go_at_call 135;(with_reducible refine(spec_l1Point.calls a0 t101 _ A2.out).mono ?_);rintro e w' ⟨rfl,⟨nd,rfl⟩⟩)|((with_reducible refine gate_dst (N:=58) rfl ?_);refine Kd.R_lit (Kd.int .u8) _ 5 ?hg (N:=58) ?hd (xs:=([(wrap64 (240+(wrap64 (Int.tdiv t101 262144)))) % 256,(wrap64 (128+(Int.tmod (wrap64 (Int.tdiv t101 4096)) 64))) % 256,(wrap64 (128+(Int.tmod (wrap64 (Int.tdiv t101 64)) 64))) % 256,(wrap64 (128+(Int.tmod t101 64))) % 256]:List Int)) (inner:= [.int .u8 ((wrap64 (240+(wrap64 (Int.tdiv t101 262144)))) % 256), .int .u8 ((wrap64 (128+(Int.tmod (wrap64 (Int.tdiv t101 4096)) 64))) % 256), .int .u8 ((wrap64 (128+(Int.tmod (wrap64 (Int.tdiv t101 64)) 64))) % 256), .int .u8 ((wrap64 (128+(Int.tmod t101 64))) % 256)]) (ok:=fun _=>True) (okp:=fun _=>True) ?hr ?hp (fun _ hk=>hk) trivial (Below.refl _ _) (Nat.le_refl _) (by simp) ?_;(case hd=>rfl);(case hg=>rfl);(case hr=>go_simp);(case hp=>exact(Reps.one (show Kd.M (Kd.int .u8) _ _ _ ((wrap64 (240+(wrap64 (Int.tdiv t101 262144)))) % 256) [.int .u8 ((wrap64 (240+(wrap64 (Int.tdiv t101 262144)))) % 256)]from rfl) (Reps.one (show Kd.M (Kd.int .u8) _ _ _ ((wrap64 (128+(Int.tmod (wrap64 (Int.tdiv t101 4096)) 64))) % 256) [.int .u8 ((wrap64 (128+(Int.tmod (wrap64 (Int.tdiv t101 4096)) 64))) % 256)]from rfl) (Reps.one (show Kd.M (Kd.int .u8) _ _ _ ((wrap64 (128+(Int.tmod (wrap64 (Int.tdiv t101 64)) 64))) % 256) [.int .u8 ((wrap64 (128+(Int.tmod (wrap64 (Int.tdiv t101 64)) 64))) % 256)]from rfl) (Reps.one (show Kd.M (Kd.int .u8) _ _ _ ((wrap64 (128+(Int.tmod t101 64))) % 256) [.int .u8 ((wrap64 (128+(Int.tmod t101 64))) % 256)]from rfl) (Reps.none _ _))))));intro v112 w12 ho13 hb hg_ hnew_;clear hg_ hnew_;(first|rw[←Ny111.out]at ho13|(simp only[Int.reduceToNat]at ho13;rw[←Ny111.out]at ho13));replace HO113:=Ak (Kd.R_lower ho13 (below_size (by repeat(first|exact HB.out|apply below_alloc|apply pw_below_drewN|apply below_drew1))));replace HB:=Ak (below_step (by repeat(first|exact HB.out|apply below_alloc|apply pw_below_drewN|apply below_drew1)) hb);clear hb ho13));go_ret;exact⟨_,rfl,by(with_reducible repeat(first|apply Kd.R_alloc|apply Kd.R_drewN|apply Kd.R_drew));exact HO113.out,by repeat(first|exact HB.out|apply below_alloc|apply pw_below_drewN|apply below_drew1)⟩
def spec_l1Put.l0:Nat→List Int→List Int→Int→Option (List Int)
 |0,_,_,_=>none
 |k+1,x0,x3,x4=>if x4<(x0.length:Int)then(if 0≤x4 then((spec_PointPut.f (rd x0 x4)).bind fun t105=>(if x3.length+t105.length<140737488355328 then(spec_l1Put.l0 k x0 (x3++t105) (wrap64 (x4+1)))else(none)))else(none))else(some x3)
def spec_l1Put.f(k:Nat)(l0:List Int):Option (List Int):=spec_l1Put.l0 k l0 (([]:List Int)) 0
theorem spec_l1Put.mono_l: ∀k,(∀y0 y1 y2,LeO (spec_l1Put.l0 k y0 y1 y2) (spec_l1Put.l0 (k+1) y0 y1 y2))
 |0=>fun _ _ _ r h=>by simp [spec_l1Put.l0]at h
 |k+1=>by
  have ih0:=spec_l1Put.mono_l k
  ·intro y0 y1 y2;unfold spec_l1Put.l0;repeat' (with_reducible first|exact ih0 _ _ _|exact LeO.refl _|exact LeO.none _|refine LeO.ite ?_ ?_|refine LeO.bind ?_ (fun _=> ?_))
theorem spec_l1Put.mono: ∀a0 k,LeO (spec_l1Put.f k a0) (spec_l1Put.f (k+1) a0):=by
 intro a0 k;have ih0:=spec_l1Put.mono_l k;unfold spec_l1Put.f;repeat' (with_reducible first|exact ih0 _ _ _|exact LeO.refl _|exact LeO.none _|refine LeO.ite ?_ ?_|refine LeO.bind ?_ (fun _=> ?_))
theorem spec_l1Put.calls(k:Nat)(A0:Option Addr)(c0:Nat)(l0:List Int)(r:List Int)(w:World)(hr0:Kd.C (Kd.int .i64) w A0 l0.length l0)(hc0:l0.length≤c0)(h:spec_l1Put.f k l0=some r):
 Calls Tryz.prog 113 #[.slice A0 l0.length c0] w fun e w'=> ∃v0_:Value,e= .returned (v0_)∧Kd.R (Kd.int .u8) 5 w' w.heap.size (fun _=>True) v0_ r∧Below w.heap.size w w':=by
 have HR0:=Ak hr0;have HC0:=Ak hc0;clear hr0 hc0;have HB:=Ak (Below.refl w.heap.size w);have H:(spec_l1Put.l0 k l0 (([]:List Int)) 0)=some r:=h;clear h;obtain⟨y101,hy101⟩: ∃y_:List Int,y_=(([]:List Int)):=⟨_,rfl⟩
 replace H:(spec_l1Put.l0 k l0 y101 0)=some r:=by rw[hy101];exact H
 have Ny101:=Ak hy101;clear hy101;have H':=Ak H;clear H;go_enter Tryz.func113,Tryz.ntmps113;go_wp2_with (first|((with_reducible refine gate_dst (N:=5) rfl ?_);refine Kd.R_lit (Kd.int .u8) _ 5 ?hg (N:=5) ?hd (xs:=([]:List Int)) (inner:= []) (ok:=fun _=>True) (okp:=fun _=>True) ?hr ?hp (fun _ hk=>hk) trivial (Below.refl _ _) (Nat.le_refl _) (by simp) ?_;(case hd=>rfl);(case hg=>rfl);(case hr=>first|(go_simp;done)|(go_simp;rfl));(case hp=>exact(Reps.none _ _));intro v102 w2 ho3 hb hg_ hnew_;clear hg_ hnew_;(first|rw[←Ny101.out]at ho3|(simp only[Int.reduceToNat]at ho3;rw[←Ny101.out]at ho3));have n0_:=Ak (Kd.R_lower ho3 (below_size (HB.out)));have n1_:=Ak (below_step (HB.out) hb);clear HB;have HO103:=n0_;have HB:=n1_;clear n0_ n1_;clear hb ho3));go_loopg [3,4] k (fun kq v3 v4 w'=> ∃(x3_1:List Int) (x4_1:Int),v4= .int .i64 x4_1∧Aside0 (spec_l1Put.l0 kq l0 x3_1 x4_1=some r)∧Aside0 (kq≤k)∧Aside0 (Kd.R (Kd.int .u8) 5 w' w.heap.size (fun _=>True) v3 x3_1)∧Aside0 (Below w.heap.size w w'));case atStart=>exact⟨(y101),(0),rfl,H',⟨Nat.le_refl _⟩,⟨by(with_reducible repeat(first|apply Kd.R_alloc|apply Kd.R_drewN|apply Kd.R_drew));exact HO103.out⟩,⟨HB.out⟩⟩
 case round=>
  clear H';try clear c1
  try clear p2
  obtain⟨x3_1,x4_1,rfl,HA,HK1,HO_3,HB⟩:=hrel;cases gk with
  |zero=>exact absurd HA.out (by simp [spec_l1Put.l0])
  |succ k1=>
   have H:=HA.out;clear HA;simp only[spec_l1Put.l0]at H;by_cases c4:x4_1<(l0.length:Int)
   ·rw[if_pos c4]at H;have c4b0:=decide_eq_true c4;clear c4;by_cases c5:0≤x4_1
    ·rw[if_pos c5]at H;have c5b0:=decide_eq_true c5;clear c5;replace H:=Ob H;obtain⟨t105,A60,H⟩:=H;replace H:(if x3_1.length+t105.length<140737488355328 then(spec_l1Put.l0 k1 l0 (x3_1++t105) (wrap64 (x4_1+1)))else(none))=some r:=H;have A6:=Ak A60;clear A60;by_cases c7:x3_1.length+t105.length<140737488355328
     ·rw[if_pos c7]at H;have LMc7:=Ak c7;clear c7;obtain⟨y108,hy108⟩: ∃y_:List Int,y_=(x3_1++t105):=⟨_,rfl⟩
      replace H:(spec_l1Put.l0 k1 l0 y108 (wrap64 (x4_1+1)))=some r:=by rw[hy108];exact H
      have Ny108:=Ak hy108;clear hy108;have H':=Ak H;clear H;have p104:0≤(x4_1:Int):=of_decide_eq_true (by assumption);have q104:x4_1<(l0.length:Int):=of_decide_eq_true (by assumption);obtain⟨ad104,e104,hx104_0⟩:=Kd.at_int HR0.out x4_1 p104 q104;cases e104;replace hx104_0:=pw_cell_below HB.out hx104_0;replace p104:=eq_true p104;replace q104:=eq_true q104;go_wp2_with (first|(go_at_call 123;(with_reducible refine(spec_PointPut.calls (rd l0 x4_1) t105 _ A6.out).mono ?_);rintro e w8 ⟨v106,rfl,ho0,hb⟩;have n0_:=Ak (Kd.R_elder' HO_3.out (Kd.R_base ho0) hb);have n1_:=Ak (Kd.R_lower (Kd.R_new' ho0 (Kd.R_lt HO_3.out)) (below_size (HB.out)));have n2_:=Ak (below_step (HB.out) hb);clear HO_3;clear HB;have HO_3:=n0_;have HO107:=n1_;have HB:=n2_;clear n0_ n1_ n2_;(try clear hb);(try clear hb2);(try clear hk);(try clear hi);(try clear ho0);obtain⟨Ao10,co10,eo10⟩:=Kd.R_slice HO107.out;subst eo10)|((with_reducible refine gate_builtin (b:= .append) (xs:= #[.tmp 12, .tmp 17]) rfl ?_);at_builtin;refine Kd.R_append_rows (Kd.int .u8) (w0:=w) w.heap.size rfl (.tmp 12) (.tmp 17) 33 5 (.int .u8 0) 1 rfl Tryz.underlying33 info5 rfl (by decide) (by omega) u3 x3_1 t105 _ _ _ (fun k_=>some k_≠(.slice Ao10 t105.length co10:Value).ownBlock) (fun _=>False) rfl rfl ?aO ?aR (fun _ _ h=>h) (fun _ h=>h.elim) ?aF ?aB ?aS ?aL ?_;(case aR=>repeat(first|exact(Kd.R_reads' HO107.out).2.2|(with_reducible refine Kd.C_alloc ?_ _)|(with_reducible refine Kd.C_drewN ?_ _)|(with_reducible refine Kd.C_drew ?_)));(case aB=>exact(HB.out));(case aF=>exact(fun k_ hk=>Kd.fresh' (Kd.R_lt HO107.out) k_ hk));(case aO=>exact(by(with_reducible repeat(first|apply Kd.R_alloc|apply Kd.R_drewN|apply Kd.R_drew));exact Kd.R_mono HO_3.out (fun _ hk=>hk.2)));(case aS=>exact(below_size (HB.out)));(case aL=>have:=LMc7.out;omega);intro v109 w9 ho hb hg hat;rw[←Ny108.out]at ho;have n0_:=Ak (Kd.R_after (ok:=(fun _=>True)) HO107.out hg hat);have n1_:=Ak (hb);have n2_:=Ak (ho);clear HO107;clear HB;clear HO_3;have HO107:=n0_;have HB:=n1_;have HO110:=n2_;clear n0_ n1_ n2_;clear ho hb hg hat));go_roundg k1;case measure=>have:=HK1.out;omega
      case rel=>exact⟨(y108),(wrap64 (x4_1+1)),rfl,H',⟨by have:=HK1.out;omega⟩,⟨by(with_reducible repeat(first|apply Kd.R_alloc|apply Kd.R_drewN|apply Kd.R_drew));exact Kd.R_mono HO110.out (fun _ hk=>trivial)⟩,⟨HB.out⟩⟩
     ·rw[if_neg c7]at H;exact absurd H (by simp)
    ·rw[if_neg c5]at H;exact absurd H (by simp)
   ·rw[if_neg c4]at H;have c4b0:=decide_eq_false c4;clear c4;obtain rfl:=Oi H;go_wp2;go_ret;exact⟨_,rfl,by(with_reducible repeat(first|apply Kd.R_alloc|apply Kd.R_drewN|apply Kd.R_drew));exact HO_3.out,HB.out⟩
def spec_PointsPut.f(k:Nat)(l0:List Int):Option (List Int):=if(l0.length:Int)>3000 then(some (([]:List Int)))else((spec_l1Put.f k l0).bind fun t104=>(some t104))
theorem spec_PointsPut.mono: ∀a0 k,LeO (spec_PointsPut.f k a0) (spec_PointsPut.f (k+1) a0):=by
 intro a0 k;unfold spec_PointsPut.f;repeat' (with_reducible first|exact spec_l1Put.mono _ _|exact LeO.refl _|exact LeO.none _|refine LeO.ite ?_ ?_|refine LeO.bind ?_ (fun _=> ?_))
theorem spec_PointsPut.calls(k:Nat)(A0:Option Addr)(c0:Nat)(l0:List Int)(r:List Int)(w:World)(hr0:Kd.C (Kd.int .i64) w A0 l0.length l0)(hc0:l0.length≤c0)(h:spec_PointsPut.f k l0=some r):
 Calls Tryz.prog 102 #[.slice A0 l0.length c0] w fun e w'=> ∃v0_:Value,e= .returned (v0_)∧Kd.R (Kd.int .u8) 5 w' w.heap.size (fun _=>True) v0_ r∧Below w.heap.size w w':=by
 have HR0:=Ak hr0;have HC0:=Ak hc0;clear hr0 hc0;have HB:=Ak (Below.refl w.heap.size w);have H:(if(l0.length:Int)>3000 then(some (([]:List Int)))else((spec_l1Put.f k l0).bind fun t104=>(some t104)))=some r:=h;clear h;by_cases c2:(l0.length:Int)>3000
 ·rw[if_pos c2]at H;have c2b0:decide (3000<(l0.length:Int))=true:=decide_eq_true c2;have c2b1:decide (3000<l0.length)=true:=decide_eq_true (by omega);clear c2;obtain⟨y101,hy101⟩: ∃y_:List Int,y_=(([]:List Int)):=⟨_,rfl⟩
  replace H:(some y101)=some r:=by rw[hy101];exact H
  have Ny101:=Ak hy101;clear hy101;obtain rfl:=Oi H;go_enter Tryz.func102,Tryz.ntmps102;go_wp2_with (first|((with_reducible refine gate_dst (N:=6) rfl ?_);refine Kd.R_lit (Kd.int .u8) _ 5 ?hg (N:=6) ?hd (xs:=([]:List Int)) (inner:= []) (ok:=fun _=>True) (okp:=fun _=>True) ?hr ?hp (fun _ hk=>hk) trivial (Below.refl _ _) (Nat.le_refl _) (by simp) ?_;(case hd=>rfl);(case hg=>rfl);(case hr=>first|(go_simp;done)|(go_simp;rfl));(case hp=>exact(Reps.none _ _));intro v102 w3 ho4 hb hg_ hnew_;clear hg_ hnew_;(first|rw[←Ny101.out]at ho4|(simp only[Int.reduceToNat]at ho4;rw[←Ny101.out]at ho4));replace HO103:=Ak (Kd.R_lower ho4 (below_size (HB.out)));replace HB:=Ak (below_step (HB.out) hb);clear hb ho4));go_ret;exact⟨_,rfl,by(with_reducible repeat(first|apply Kd.R_alloc|apply Kd.R_drewN|apply Kd.R_drew));exact HO103.out,HB.out⟩
 ·rw[if_neg c2]at H;have c2b0:decide (3000<(l0.length:Int))=false:=decide_eq_false c2;have c2b1:decide (3000<l0.length)=false:=decide_eq_false (by omega);clear c2;replace H:=Ob H;obtain⟨t104,A50,H⟩:=H;replace H:(some t104)=some r:=H;have A5:=Ak A50;clear A50;obtain rfl:=Oi H;go_enter Tryz.func102,Tryz.ntmps102;go_wp2_with (first|(go_at_call 113;(with_reducible refine(spec_l1Put.calls k _ _ l0 t104 _ ?side1 ?side2 A5.out).mono ?_);(case side1=>repeat(first|exact HR0.out|(with_reducible refine Kd.C_alloc ?_ _)|(with_reducible refine Kd.C_drewN ?_ _)|(with_reducible refine Kd.C_drew ?_)));(case side2=>exact HC0.out);rintro e w6 ⟨v105,rfl,ho0,hb⟩;replace HO106:=Ak (Kd.R_lower ho0 (below_size (HB.out)));replace HB:=Ak (below_step (HB.out) hb);(try clear hb);(try clear hb2);(try clear hk);(try clear hi);(try clear ho0)));go_ret;exact⟨_,rfl,by(with_reducible repeat(first|apply Kd.R_alloc|apply Kd.R_drewN|apply Kd.R_drew));exact HO106.out,HB.out⟩
def spec_l1Forms.f(a0:Int):Option (Int):=if a0<128 then(some 1)else((spec_l1In.f a0 194 223).bind fun t101=>(if t101=true then(some 2)else((spec_l1In.f a0 224 239).bind fun t102=>(if t102=true then(some 3)else((spec_l1In.f a0 240 244).bind fun t103=>(if t103=true then(some 4)else(some 0)))))))
theorem spec_l1Forms.calls(a0:Int)(r:Int)(w:World)(h:spec_l1Forms.f a0=some r):
 Calls Tryz.prog 124 #[.int .i64 a0] w fun e w'=>e= .returned (.int .i64 r)∧Drawn0 w w':=by
 have H:(if a0<128 then(some 1)else((spec_l1In.f a0 194 223).bind fun t101=>(if t101=true then(some 2)else((spec_l1In.f a0 224 239).bind fun t102=>(if t102=true then(some 3)else((spec_l1In.f a0 240 244).bind fun t103=>(if t103=true then(some 4)else(some 0))))))))=some r:=h;clear h;by_cases c2:a0<128
 ·rw[if_pos c2]at H;have c2b0:=decide_eq_true c2;clear c2;obtain rfl:=Oi H;go_enter Tryz.func124,Tryz.ntmps124;go_wp2;go_ret;exact⟨rfl,by repeat(first|exact Drawn0.refl _|apply Drawn0.step)⟩
 ·rw[if_neg c2]at H;have c2b0:=decide_eq_false c2;clear c2;replace H:=Ob H;obtain⟨t101,A30,H⟩:=H;replace H:(if t101=true then(some 2)else((spec_l1In.f a0 224 239).bind fun t102=>(if t102=true then(some 3)else((spec_l1In.f a0 240 244).bind fun t103=>(if t103=true then(some 4)else(some 0))))))=some r:=H;have A3:=Ak A30;clear A30;by_cases c4:t101=true
  ·subst c4;rw[if_pos rfl]at H;obtain rfl:=Oi H;go_enter Tryz.func124,Tryz.ntmps124;go_wp2_with (first|(go_at_call 27;(with_reducible refine(spec_l1In.calls a0 194 223 true _ A3.out).mono ?_);rintro e w' ⟨rfl,⟨nd,rfl⟩⟩));go_ret;exact⟨rfl,by repeat(first|exact Drawn0.refl _|apply Drawn0.step)⟩
  ·replace c4:=Bool.eq_false_iff.mpr c4;subst c4;rw[if_neg (show ¬(false=true)by decide)]at H;replace H:=Ob H;obtain⟨t102,A50,H⟩:=H;replace H:(if t102=true then(some 3)else((spec_l1In.f a0 240 244).bind fun t103=>(if t103=true then(some 4)else(some 0))))=some r:=H;have A5:=Ak A50;clear A50;by_cases c6:t102=true
   ·subst c6;rw[if_pos rfl]at H;obtain rfl:=Oi H;go_enter Tryz.func124,Tryz.ntmps124;go_wp2_with (first|(go_at_call 27;(with_reducible refine(spec_l1In.calls a0 194 223 false _ A3.out).mono ?_);rintro e w' ⟨rfl,⟨nd,rfl⟩⟩)|(go_at_call 27;(with_reducible refine(spec_l1In.calls a0 224 239 true _ A5.out).mono ?_);rintro e w' ⟨rfl,⟨nd,rfl⟩⟩));go_ret;exact⟨rfl,by repeat(first|exact Drawn0.refl _|apply Drawn0.step)⟩
   ·replace c6:=Bool.eq_false_iff.mpr c6;subst c6;rw[if_neg (show ¬(false=true)by decide)]at H;replace H:=Ob H;obtain⟨t103,A70,H⟩:=H;replace H:(if t103=true then(some 4)else(some 0))=some r:=H;have A7:=Ak A70;clear A70;by_cases c8:t103=true
    ·subst c8;rw[if_pos rfl]at H;obtain rfl:=Oi H;go_enter Tryz.func124,Tryz.ntmps124;go_wp2_with (first|(go_at_call 27;(with_reducible refine(spec_l1In.calls a0 194 223 false _ A3.out).mono ?_);rintro e w' ⟨rfl,⟨nd,rfl⟩⟩)|(go_at_call 27;(with_reducible refine(spec_l1In.calls a0 224 239 false _ A5.out).mono ?_);rintro e w' ⟨rfl,⟨nd,rfl⟩⟩)|(go_at_call 27;(with_reducible refine(spec_l1In.calls a0 240 244 true _ A7.out).mono ?_);rintro e w' ⟨rfl,⟨nd,rfl⟩⟩));go_ret;exact⟨rfl,by repeat(first|exact Drawn0.refl _|apply Drawn0.step)⟩
    ·replace c8:=Bool.eq_false_iff.mpr c8;subst c8;rw[if_neg (show ¬(false=true)by decide)]at H;obtain rfl:=Oi H;go_enter Tryz.func124,Tryz.ntmps124;go_wp2_with (first|(go_at_call 27;(with_reducible refine(spec_l1In.calls a0 194 223 false _ A3.out).mono ?_);rintro e w' ⟨rfl,⟨nd,rfl⟩⟩)|(go_at_call 27;(with_reducible refine(spec_l1In.calls a0 224 239 false _ A5.out).mono ?_);rintro e w' ⟨rfl,⟨nd,rfl⟩⟩)|(go_at_call 27;(with_reducible refine(spec_l1In.calls a0 240 244 false _ A7.out).mono ?_);rintro e w' ⟨rfl,⟨nd,rfl⟩⟩));go_ret;exact⟨rfl,by repeat(first|exact Drawn0.refl _|apply Drawn0.step)⟩
def spec_l1Fits.f(a0:Int)(a1:Int)(a2:Int):Option (Bool):=if a1=1 then(if a0=224 then((spec_l1In.f a2 160 191).bind fun t101=>(some t101))else(if a0=237 then((spec_l1In.f a2 128 159).bind fun t102=>(some t102))else(if a0=240 then((spec_l1In.f a2 144 191).bind fun t103=>(some t103))else(if a0=244 then((spec_l1In.f a2 128 143).bind fun t104=>(some t104))else((spec_l1In.f a2 128 191).bind fun t105=>(some t105))))))else((spec_l1In.f a2 128 191).bind fun t106=>(some t106))
theorem spec_l1Fits.calls(a0:Int)(a1:Int)(a2:Int)(r:Bool)(w:World)(h:spec_l1Fits.f a0 a1 a2=some r):
 Calls Tryz.prog 125 #[.int .i64 a0, .int .i64 a1, .int .i64 a2] w fun e w'=>e= .returned (.bool r)∧Drawn0 w w':=by
 have H:(if a1=1 then(if a0=224 then((spec_l1In.f a2 160 191).bind fun t101=>(some t101))else(if a0=237 then((spec_l1In.f a2 128 159).bind fun t102=>(some t102))else(if a0=240 then((spec_l1In.f a2 144 191).bind fun t103=>(some t103))else(if a0=244 then((spec_l1In.f a2 128 143).bind fun t104=>(some t104))else((spec_l1In.f a2 128 191).bind fun t105=>(some t105))))))else((spec_l1In.f a2 128 191).bind fun t106=>(some t106)))=some r:=h;clear h;by_cases c4:a1=1
 ·rw[if_pos c4]at H;have c4b0:=beq_iff_eq.mpr c4;have c4b1:=bne_eq_false_iff_eq.mpr c4;clear c4;by_cases c5:a0=224
  ·rw[if_pos c5]at H;have c5b0:=beq_iff_eq.mpr c5;have c5b1:=bne_eq_false_iff_eq.mpr c5;clear c5;replace H:=Ob H;obtain⟨t101,A60,H⟩:=H;replace H:(some t101)=some r:=H;have A6:=Ak A60;clear A60;obtain rfl:=Oi H;go_enter Tryz.func125,Tryz.ntmps125;go_wp2_with (first|(go_at_call 27;(with_reducible refine(spec_l1In.calls a2 160 191 t101 _ A6.out).mono ?_);rintro e w' ⟨rfl,⟨nd,rfl⟩⟩));go_ret;exact⟨rfl,by repeat(first|exact Drawn0.refl _|apply Drawn0.step)⟩
  ·rw[if_neg c5]at H;have c5b0:=beq_eq_false_iff_ne.mpr c5;have c5b1:=bne_iff_ne.mpr c5;by_cases c7:a0=237
   ·rw[if_pos c7]at H;have c7b0:=beq_iff_eq.mpr c7;have c7b1:=bne_eq_false_iff_eq.mpr c7;clear c7;replace H:=Ob H;obtain⟨t102,A80,H⟩:=H;replace H:(some t102)=some r:=H;have A8:=Ak A80;clear A80;obtain rfl:=Oi H;go_enter Tryz.func125,Tryz.ntmps125;go_wp2_with (first|(go_at_call 27;(with_reducible refine(spec_l1In.calls a2 128 159 t102 _ A8.out).mono ?_);rintro e w' ⟨rfl,⟨nd,rfl⟩⟩));go_ret;exact⟨rfl,by repeat(first|exact Drawn0.refl _|apply Drawn0.step)⟩
   ·rw[if_neg c7]at H;have c7b0:=beq_eq_false_iff_ne.mpr c7;have c7b1:=bne_iff_ne.mpr c7;by_cases c9:a0=240
    ·rw[if_pos c9]at H;have c9b0:=beq_iff_eq.mpr c9;have c9b1:=bne_eq_false_iff_eq.mpr c9;clear c9;replace H:=Ob H;obtain⟨t103,A100,H⟩:=H;replace H:(some t103)=some r:=H;have A10:=Ak A100;clear A100;obtain rfl:=Oi H;go_enter Tryz.func125,Tryz.ntmps125;go_wp2_with (first|(go_at_call 27;(with_reducible refine(spec_l1In.calls a2 144 191 t103 _ A10.out).mono ?_);rintro e w' ⟨rfl,⟨nd,rfl⟩⟩));go_ret;exact⟨rfl,by repeat(first|exact Drawn0.refl _|apply Drawn0.step)⟩
    ·rw[if_neg c9]at H;have c9b0:=beq_eq_false_iff_ne.mpr c9;have c9b1:=bne_iff_ne.mpr c9;by_cases c11:a0=244
     ·rw[if_pos c11]at H;have c11b0:=beq_iff_eq.mpr c11;have c11b1:=bne_eq_false_iff_eq.mpr c11;clear c11;replace H:=Ob H;obtain⟨t104,A120,H⟩:=H;replace H:(some t104)=some r:=H;have A12:=Ak A120;clear A120;obtain rfl:=Oi H;go_enter Tryz.func125,Tryz.ntmps125;go_wp2_with (first|(go_at_call 27;(with_reducible refine(spec_l1In.calls a2 128 143 t104 _ A12.out).mono ?_);rintro e w' ⟨rfl,⟨nd,rfl⟩⟩));go_ret;exact⟨rfl,by repeat(first|exact Drawn0.refl _|apply Drawn0.step)⟩
     ·rw[if_neg c11]at H;have c11b0:=beq_eq_false_iff_ne.mpr c11;have c11b1:=bne_iff_ne.mpr c11;replace H:=Ob H;obtain⟨t105,A130,H⟩:=H;replace H:(some t105)=some r:=H;have A13:=Ak A130;clear A130;obtain rfl:=Oi H;go_enter Tryz.func125,Tryz.ntmps125;go_wp2_with (first|(go_at_call 27;(with_reducible refine(spec_l1In.calls a2 128 191 t105 _ A13.out).mono ?_);rintro e w' ⟨rfl,⟨nd,rfl⟩⟩));go_ret;exact⟨rfl,by repeat(first|exact Drawn0.refl _|apply Drawn0.step)⟩
 ·rw[if_neg c4]at H;have c4b0:=beq_eq_false_iff_ne.mpr c4;have c4b1:=bne_iff_ne.mpr c4;replace H:=Ob H;obtain⟨t106,A140,H⟩:=H;replace H:(some t106)=some r:=H;have A14:=Ak A140;clear A140;obtain rfl:=Oi H;go_enter Tryz.func125,Tryz.ntmps125;go_wp2_with (first|(go_at_call 27;(with_reducible refine(spec_l1In.calls a2 128 191 t106 _ A14.out).mono ?_);rintro e w' ⟨rfl,⟨nd,rfl⟩⟩));go_ret;exact⟨rfl,by repeat(first|exact Drawn0.refl _|apply Drawn0.step)⟩
mutual
def spec_l1Read.l0:Nat→List Int→List Int→Int→Option (List Int)
 |0,_,_,_=>none
 |k+1,x0,x3,x4=>if x4<(x0.length:Int)then(if 0≤x4 then((spec_l1Forms.f (wrap64 (rd x0 x4))).bind fun t105=>(spec_l1Read.l1 k x0 x3 x4 (wrap64 (rd x0 x4)) t105 1))else(none))else(some x3)
def spec_l1Read.j2:Nat→List Int→List Int→Int→Int→Int→Int→Option (List Int)
 |0,_,_,_,_,_,_=>none
 |k+1,x0,x3,x4,x5,x6,x7=>if x6=0 then(spec_l1Read.j3 k x0 x3 x4 x5 x6 x7 true)else(spec_l1Read.j3 k x0 x3 x4 x5 x6 x7 (decide (x7<x6)))
def spec_l1Read.j3:Nat→List Int→List Int→Int→Int→Int→Int→Bool→Option (List Int)
 |0,_,_,_,_,_,_,_=>none
 |k+1,x0,x3,x4,x5,x6,x7,x53=>if x53=true then(if x3.length<17592186044416 then(spec_l1Read.l0 k x0 (x3++ [65533]) (wrap64 (x4+x7)))else(none))else(if x6=2 then(spec_l1Read.j4 k x0 x3 x4 x6 (wrap64 (x5- 192)))else(if x6=3 then(spec_l1Read.j4 k x0 x3 x4 x6 (wrap64 (x5- 224)))else(if x6=4 then(spec_l1Read.j4 k x0 x3 x4 x6 (wrap64 (x5- 240)))else(spec_l1Read.j4 k x0 x3 x4 x6 x5))))
def spec_l1Read.j4:Nat→List Int→List Int→Int→Int→Int→Option (List Int)
 |0,_,_,_,_,_=>none
 |k+1,x0,x3,x4,x6,x8=>spec_l1Read.l2 k x0 x3 x4 x6 x8 1
def spec_l1Read.l2:Nat→List Int→List Int→Int→Int→Int→Int→Option (List Int)
 |0,_,_,_,_,_,_=>none
 |k+1,x0,x3,x4,x6,x8,x9=>if x9<x6 then(if 0≤(wrap64 (x4+x9))then(if(wrap64 (x4+x9))<(x0.length:Int)then(spec_l1Read.l2 k x0 x3 x4 x6 (wrap64 ((wrap64 ((wrap64 (64*x8))+(wrap64 (rd x0 (wrap64 (x4+x9))))))- 128)) (wrap64 (x9+1)))else(none))else(none))else(if x3.length<17592186044416 then(spec_l1Read.l0 k x0 (x3++ [x8]) (wrap64 (x4+x6)))else(none))
def spec_l1Read.l1:Nat→List Int→List Int→Int→Int→Int→Int→Option (List Int)
 |0,_,_,_,_,_,_=>none
 |k+1,x0,x3,x4,x5,x6,x7=>if x7<x6 then(if(wrap64 (x4+x7))<(x0.length:Int)then(if 0≤(wrap64 (x4+x7))then((spec_l1Fits.f x5 x7 (wrap64 (rd x0 (wrap64 (x4+x7))))).bind fun t107=>(if t107=true then(spec_l1Read.l1 k x0 x3 x4 x5 x6 (wrap64 (x7+1)))else(spec_l1Read.j2 k x0 x3 x4 x5 x6 x7)))else(none))else(spec_l1Read.j2 k x0 x3 x4 x5 x6 x7))else(spec_l1Read.j2 k x0 x3 x4 x5 x6 x7)
end
def spec_l1Read.f(k:Nat)(l0:List Int):Option (List Int):=spec_l1Read.l0 k l0 (([]:List Int)) 0
theorem spec_l1Read.mono_l: ∀k,(∀y0 y1 y2,LeO (spec_l1Read.l0 k y0 y1 y2) (spec_l1Read.l0 (k+1) y0 y1 y2))∧(∀y0 y1 y2 y3 y4 y5,LeO (spec_l1Read.j2 k y0 y1 y2 y3 y4 y5) (spec_l1Read.j2 (k+1) y0 y1 y2 y3 y4 y5))∧(∀y0 y1 y2 y3 y4 y5 y6,LeO (spec_l1Read.j3 k y0 y1 y2 y3 y4 y5 y6) (spec_l1Read.j3 (k+1) y0 y1 y2 y3 y4 y5 y6))∧(∀y0 y1 y2 y3 y4,LeO (spec_l1Read.j4 k y0 y1 y2 y3 y4) (spec_l1Read.j4 (k+1) y0 y1 y2 y3 y4))∧(∀y0 y1 y2 y3 y4 y5,LeO (spec_l1Read.l2 k y0 y1 y2 y3 y4 y5) (spec_l1Read.l2 (k+1) y0 y1 y2 y3 y4 y5))∧(∀y0 y1 y2 y3 y4 y5,LeO (spec_l1Read.l1 k y0 y1 y2 y3 y4 y5) (spec_l1Read.l1 (k+1) y0 y1 y2 y3 y4 y5))
 |0=>⟨fun _ _ _ r h=>by simp [spec_l1Read.l0]at h,fun _ _ _ _ _ _ r h=>by simp [spec_l1Read.j2]at h,fun _ _ _ _ _ _ _ r h=>by simp [spec_l1Read.j3]at h,fun _ _ _ _ _ r h=>by simp [spec_l1Read.j4]at h,fun _ _ _ _ _ _ r h=>by simp [spec_l1Read.l2]at h,fun _ _ _ _ _ _ r h=>by simp [spec_l1Read.l1]at h⟩
 |k+1=>by
  obtain⟨ih0,ih1,ih2,ih3,ih4,ih5⟩:=spec_l1Read.mono_l k;refine⟨?_, ?_, ?_, ?_, ?_, ?_⟩
  ·intro y0 y1 y2;unfold spec_l1Read.l0;repeat' (with_reducible first|exact ih0 _ _ _|exact ih1 _ _ _ _ _ _|exact ih2 _ _ _ _ _ _ _|exact ih3 _ _ _ _ _|exact ih4 _ _ _ _ _ _|exact ih5 _ _ _ _ _ _|exact LeO.refl _|exact LeO.none _|refine LeO.ite ?_ ?_|refine LeO.bind ?_ (fun _=> ?_))
  ·intro y0 y1 y2 y3 y4 y5;unfold spec_l1Read.j2;repeat' (with_reducible first|exact ih0 _ _ _|exact ih1 _ _ _ _ _ _|exact ih2 _ _ _ _ _ _ _|exact ih3 _ _ _ _ _|exact ih4 _ _ _ _ _ _|exact ih5 _ _ _ _ _ _|exact LeO.refl _|exact LeO.none _|refine LeO.ite ?_ ?_|refine LeO.bind ?_ (fun _=> ?_))
  ·intro y0 y1 y2 y3 y4 y5 y6;unfold spec_l1Read.j3;repeat' (with_reducible first|exact ih0 _ _ _|exact ih1 _ _ _ _ _ _|exact ih2 _ _ _ _ _ _ _|exact ih3 _ _ _ _ _|exact ih4 _ _ _ _ _ _|exact ih5 _ _ _ _ _ _|exact LeO.refl _|exact LeO.none _|refine LeO.ite ?_ ?_|refine LeO.bind ?_ (fun _=> ?_))
  ·intro y0 y1 y2 y3 y4;unfold spec_l1Read.j4;repeat' (with_reducible first|exact ih0 _ _ _|exact ih1 _ _ _ _ _ _|exact ih2 _ _ _ _ _ _ _|exact ih3 _ _ _ _ _|exact ih4 _ _ _ _ _ _|exact ih5 _ _ _ _ _ _|exact LeO.refl _|exact LeO.none _|refine LeO.ite ?_ ?_|refine LeO.bind ?_ (fun _=> ?_))
  ·intro y0 y1 y2 y3 y4 y5;unfold spec_l1Read.l2;repeat' (with_reducible first|exact ih0 _ _ _|exact ih1 _ _ _ _ _ _|exact ih2 _ _ _ _ _ _ _|exact ih3 _ _ _ _ _|exact ih4 _ _ _ _ _ _|exact ih5 _ _ _ _ _ _|exact LeO.refl _|exact LeO.none _|refine LeO.ite ?_ ?_|refine LeO.bind ?_ (fun _=> ?_))
  ·intro y0 y1 y2 y3 y4 y5;unfold spec_l1Read.l1;repeat' (with_reducible first|exact ih0 _ _ _|exact ih1 _ _ _ _ _ _|exact ih2 _ _ _ _ _ _ _|exact ih3 _ _ _ _ _|exact ih4 _ _ _ _ _ _|exact ih5 _ _ _ _ _ _|exact LeO.refl _|exact LeO.none _|refine LeO.ite ?_ ?_|refine LeO.bind ?_ (fun _=> ?_))
theorem spec_l1Read.mono: ∀a0 k,LeO (spec_l1Read.f k a0) (spec_l1Read.f (k+1) a0):=by
 intro a0 k;obtain⟨ih0,ih1,ih2,ih3,ih4,ih5⟩:=spec_l1Read.mono_l k;unfold spec_l1Read.f;repeat' (with_reducible first|exact ih0 _ _ _|exact ih1 _ _ _ _ _ _|exact ih2 _ _ _ _ _ _ _|exact ih3 _ _ _ _ _|exact ih4 _ _ _ _ _ _|exact ih5 _ _ _ _ _ _|exact LeO.refl _|exact LeO.none _|refine LeO.ite ?_ ?_|refine LeO.bind ?_ (fun _=> ?_))
theorem spec_l1Read.calls(k:Nat)(A0:Option Addr)(c0:Nat)(l0:List Int)(r:List Int)(w:World)(hr0:Kd.C (Kd.int .u8) w A0 l0.length l0)(hc0:l0.length≤c0)(h:spec_l1Read.f k l0=some r):
 Calls Tryz.prog 114 #[.slice A0 l0.length c0] w fun e w'=> ∃v0_:Value,e= .returned (v0_)∧Kd.R (Kd.int .i64) 3 w' w.heap.size (fun _=>True) v0_ r∧Below w.heap.size w w':=by
 have HR0:=Ak hr0;have HC0:=Ak hc0;clear hr0 hc0;have HB:=Ak (Below.refl w.heap.size w);have H:(spec_l1Read.l0 k l0 (([]:List Int)) 0)=some r:=h;clear h;obtain⟨y101,hy101⟩: ∃y_:List Int,y_=(([]:List Int)):=⟨_,rfl⟩
 replace H:(spec_l1Read.l0 k l0 y101 0)=some r:=by rw[hy101];exact H
 have Ny101:=Ak hy101;clear hy101;have H':=Ak H;clear H;go_enter Tryz.func114,Tryz.ntmps114;go_wp2_with (first|((with_reducible refine gate_dst (N:=10) rfl ?_);(try(refine gate_guard (by rfl) ?_;dsimp only));refine Kd.R_lit (Kd.int .i64) _ 3 ?hg (N:=10) ?hd (xs:=([]:List Int)) (inner:= []) (ok:=fun _=>True) (okp:=fun _=>True) ?hr ?hp (fun _ hk=>hk) trivial (Below.refl _ _) (Nat.le_refl _) (by simp) ?_;(case hd=>rfl);(case hg=>rfl);(case hr=>first|(go_simp;done)|(go_simp;rfl));(case hp=>exact(Reps.none _ _));intro v102 w2 ho3 hb hg_ hnew_;clear hg_ hnew_;(first|rw[←Ny101.out]at ho3|(simp only[Int.reduceToNat]at ho3;rw[←Ny101.out]at ho3));replace HO103:=Ak (Kd.R_lower ho3 (below_size (by repeat(first|exact HB.out|apply below_alloc|apply pw_below_drewN|apply below_drew1))));replace HB:=Ak (below_step (by repeat(first|exact HB.out|apply below_alloc|apply pw_below_drewN|apply below_drew1)) hb);clear hb ho3));go_loopg [3,4] k (fun kq v3 v4 w'=> ∃(x3_1:List Int) (x4_1:Int),v4= .int .i64 x4_1∧Aside0 (spec_l1Read.l0 kq l0 x3_1 x4_1=some r)∧Aside0 (kq≤k)∧Aside0 (Kd.R (Kd.int .i64) 3 w' w.heap.size (fun _=>True) v3 x3_1)∧Aside0 (Below w.heap.size w w'));case atStart=>exact⟨(y101),(0),rfl,H',⟨Nat.le_refl _⟩,⟨by(with_reducible repeat(first|apply Kd.R_alloc|apply Kd.R_drewN|apply Kd.R_drew));exact HO103.out⟩,⟨by repeat(first|exact HB.out|apply below_alloc|apply pw_below_drewN|apply below_drew1)⟩⟩
 case round=>
  clear H';obtain⟨x3_1,x4_1,rfl,HA,HK1,HO_3,HB⟩:=hrel;cases gk with
  |zero=>exact absurd HA.out (by simp [spec_l1Read.l0])
  |succ k1=>
   have H:=HA.out;clear HA;simp only[spec_l1Read.l0]at H;by_cases c4:x4_1<(l0.length:Int)
   ·rw[if_pos c4]at H;have c4b0:=decide_eq_true c4;clear c4;by_cases c5:0≤x4_1
    ·rw[if_pos c5]at H;have c5b0:=decide_eq_true c5;clear c5;replace H:=Ob H;obtain⟨t105,A60,H⟩:=H;replace H:(spec_l1Read.l1 k1 l0 x3_1 x4_1 (wrap64 (rd l0 x4_1)) t105 1)=some r:=H;have A6:=Ak A60;clear A60;have HC7:=Ak H;clear H;have p104:0≤(x4_1:Int):=of_decide_eq_true (by assumption);have q104:x4_1<(l0.length:Int):=of_decide_eq_true (by assumption);obtain⟨ad104,e104,hx104_0⟩:=Kd.at_int HR0.out x4_1 p104 q104;cases e104;replace hx104_0:=pw_cell_below HB.out hx104_0;replace p104:=eq_true p104;replace q104:=eq_true q104;go_upto_block 2 with(first|(go_at_call 124;(with_reducible refine(spec_l1Forms.calls (wrap64 (rd l0 x4_1)) t105 _ A6.out).mono ?_);rintro e w' ⟨rfl,⟨nd,rfl⟩⟩))
     (try simp only[Act.put,List.setIfInBounds_toArray,List.set_cons_zero,List.set_cons_succ]);go_cut [7] (fun v7 wc=> ∃(kq:Nat) (x7_6:Int),v7= .int .i64 x7_6∧Aside0 (spec_l1Read.j2 kq l0 x3_1 x4_1 (wrap64 (rd l0 x4_1)) t105 x7_6=some r)∧Aside0 (kq≤k1)∧Aside0 (Kd.R (Kd.int .i64) 3 wc w.heap.size (fun _=>True) u3 x3_1)∧Aside0 (Below w.heap.size w wc));case first=>
      have H:=HC7.out;clear HC7;have H':=Ak H;clear H;go_wp2;go_loopg [7] k1 (fun kq v7 w'=> ∃(x7_2:Int),v7= .int .i64 x7_2∧Aside0 (spec_l1Read.l1 kq l0 x3_1 x4_1 (wrap64 (rd l0 x4_1)) t105 x7_2=some r)∧Aside0 (kq≤k1)∧Aside0 (Kd.R (Kd.int .i64) 3 w' w.heap.size (fun _=>True) u3 x3_1)∧Aside0 (Below w.heap.size w w'));case atStart=>exact⟨(1),rfl,H',⟨Nat.le_refl _⟩,⟨by(with_reducible repeat(first|apply Kd.R_alloc|apply Kd.R_drewN|apply Kd.R_drew));exact HO_3.out⟩,⟨by repeat(first|exact HB.out|apply below_alloc|apply pw_below_drewN|apply below_drew1)⟩⟩
      case round=>
       clear H';obtain⟨x7_2,rfl,HA,HK2,HO_3,HB⟩:=hrel;cases gk with
       |zero=>exact absurd HA.out (by simp [spec_l1Read.l1])
       |succ k2=>
        have H:=HA.out;clear HA;simp only[spec_l1Read.l1]at H;by_cases c8:x7_2<t105
        ·rw[if_pos c8]at H;have c8b0:=decide_eq_true c8;clear c8;(first|rw[c8b0]|(simp only[i64_w,i32_w];rw[c8b0])|skip);by_cases c9:(wrap64 (x4_1+x7_2))<(l0.length:Int)
         ·rw[if_pos c9]at H;have c9b0:=decide_eq_true c9;clear c9;obtain⟨ji10,hji10⟩: ∃j_:Int,(wrap64 (x4_1+x7_2))=j_:=⟨_,rfl⟩
          replace H:(if 0≤(ji10)then((spec_l1Fits.f (wrap64 (rd l0 x4_1)) x7_2 (wrap64 (rd l0 (ji10)))).bind fun t107=>(if t107=true then(spec_l1Read.l1 k2 l0 x3_1 x4_1 (wrap64 (rd l0 x4_1)) t105 (wrap64 (x7_2+1)))else(spec_l1Read.j2 k2 l0 x3_1 x4_1 (wrap64 (rd l0 x4_1)) t105 x7_2)))else(none))=some r:=by first|(rw[hji10]at H;exact H)|(simp only[hji10]at H⊢;exact H)
          (try rw[hji10]at c9b0);have hji10w:(IntKind.i64.wrap (x4_1+x7_2))=ji10:=(i64_w _).trans hji10;by_cases c11:0≤(ji10)
          ·rw[if_pos c11]at H;have c11b0:=decide_eq_true c11;clear c11;replace H:=Ob H;obtain⟨t107,A120,H⟩:=H;replace H:(if t107=true then(spec_l1Read.l1 k2 l0 x3_1 x4_1 (wrap64 (rd l0 x4_1)) t105 (wrap64 (x7_2+1)))else(spec_l1Read.j2 k2 l0 x3_1 x4_1 (wrap64 (rd l0 x4_1)) t105 x7_2))=some r:=H;have A12:=Ak A120;clear A120;by_cases c13:t107=true
           ·subst c13;rw[if_pos rfl]at H;have H':=Ak H;clear H;have p106:0≤((ji10):Int):=of_decide_eq_true (by assumption);have q106:(ji10)<(l0.length:Int):=of_decide_eq_true (by assumption);obtain⟨ad106,e106,hx106_0⟩:=Kd.at_int HR0.out (ji10) p106 q106;obtain rfl:ad104=ad106:=(by injection e106)
            replace hx106_0:=pw_cell_below HB.out hx106_0;replace p106:=eq_true p106;replace q106:=eq_true q106;go_wp2_with (first|(go_at_call 125;(with_reducible refine(spec_l1Fits.calls (wrap64 (rd l0 x4_1)) x7_2 (wrap64 (rd l0 (ji10))) true _ A12.out).mono ?_);rintro e w' ⟨rfl,⟨nd,rfl⟩⟩));go_roundg k2;case measure=>have:=HK1.out;have:=HK2.out;omega
            case rel=>exact⟨(wrap64 (x7_2+1)),rfl,H',⟨by have:=HK1.out;have:=HK2.out;omega⟩,⟨by(with_reducible repeat(first|apply Kd.R_alloc|apply Kd.R_drewN|apply Kd.R_drew));exact HO_3.out⟩,⟨by repeat(first|exact HB.out|apply below_alloc|apply pw_below_drewN|apply below_drew1)⟩⟩
           ·replace c13:=Bool.eq_false_iff.mpr c13;subst c13;rw[if_neg (show ¬(false=true)by decide)]at H;have H':=Ak H;clear H;have p106:0≤((ji10):Int):=of_decide_eq_true (by assumption);have q106:(ji10)<(l0.length:Int):=of_decide_eq_true (by assumption);obtain⟨ad106,e106,hx106_0⟩:=Kd.at_int HR0.out (ji10) p106 q106;obtain rfl:ad104=ad106:=(by injection e106)
            replace hx106_0:=pw_cell_below HB.out hx106_0;replace p106:=eq_true p106;replace q106:=eq_true q106;go_wp2_with (first|(go_at_call 125;(with_reducible refine(spec_l1Fits.calls (wrap64 (rd l0 x4_1)) x7_2 (wrap64 (rd l0 (ji10))) false _ A12.out).mono ?_);rintro e w' ⟨rfl,⟨nd,rfl⟩⟩));go_meet;case rel=>exact⟨_,(x7_2),rfl,H',⟨by have:=HK1.out;have:=HK2.out;first|omega|exact Nat.le_refl _⟩,⟨by(with_reducible repeat(first|apply Kd.R_alloc|apply Kd.R_drewN|apply Kd.R_drew));exact HO_3.out⟩,⟨by repeat(first|exact HB.out|apply below_alloc|apply pw_below_drewN|apply below_drew1)⟩⟩
          ·rw[if_neg c11]at H;exact absurd H (by simp)
         ·rw[if_neg c9]at H;have c9b0:=decide_eq_false c9;clear c9;have H':=Ak H;clear H;go_wp2;go_meet;case rel=>exact⟨_,(x7_2),rfl,H',⟨by have:=HK1.out;have:=HK2.out;first|omega|exact Nat.le_refl _⟩,⟨by(with_reducible repeat(first|apply Kd.R_alloc|apply Kd.R_drewN|apply Kd.R_drew));exact HO_3.out⟩,⟨by repeat(first|exact HB.out|apply below_alloc|apply pw_below_drewN|apply below_drew1)⟩⟩
        ·rw[if_neg c8]at H;have c8b0:=decide_eq_false c8;clear c8;(first|rw[c8b0]|(simp only[i64_w,i32_w];rw[c8b0])|skip);have H':=Ak H;clear H;go_wp2;go_meet;case rel=>exact⟨_,(x7_2),rfl,H',⟨by have:=HK1.out;have:=HK2.out;first|omega|exact Nat.le_refl _⟩,⟨by(with_reducible repeat(first|apply Kd.R_alloc|apply Kd.R_drewN|apply Kd.R_drew));exact HO_3.out⟩,⟨by repeat(first|exact HB.out|apply below_alloc|apply pw_below_drewN|apply below_drew1)⟩⟩
     case rest=>
      clear HC7;obtain⟨kq,x7_6,rfl,HA,HJ6,HO_3,HB⟩:=hcut;cases kq with
      |zero=>exact absurd HA.out (by simp [spec_l1Read.j2])
      |succ kj6=>
       have H:=HA.out;clear HA;simp only[spec_l1Read.j2]at H;have HC14:=Ak H;clear H;go_upto_region 9 with(fail);go_cut [53] (fun v53 wc=> ∃(kq:Nat) (x53_13:Bool),v53= .bool x53_13∧Aside0 (spec_l1Read.j3 kq l0 x3_1 x4_1 (wrap64 (rd l0 x4_1)) t105 x7_6 x53_13=some r)∧Aside0 (kq≤kj6)∧Aside0 (Kd.R (Kd.int .i64) 3 wc w.heap.size (fun _=>True) u3 x3_1)∧Aside0 (Below w.heap.size w wc));case first=>
        have H:=HC14.out;clear HC14;by_cases c15:t105=0
        ·rw[if_pos c15]at H;have c15b0:=beq_iff_eq.mpr c15;have c15b1:=bne_eq_false_iff_eq.mpr c15;clear c15;(first|rw[c15b0]|(simp only[i64_w,i32_w];rw[c15b0])|skip);have H':=Ak H;clear H;go_wp2;go_meet;case rel=>exact⟨_,(true),rfl,H',⟨by have:=HK1.out;have:=HJ6.out;first|omega|exact Nat.le_refl _⟩,⟨by(with_reducible repeat(first|apply Kd.R_alloc|apply Kd.R_drewN|apply Kd.R_drew));exact HO_3.out⟩,⟨by repeat(first|exact HB.out|apply below_alloc|apply pw_below_drewN|apply below_drew1)⟩⟩
        ·rw[if_neg c15]at H;have c15b0:=beq_eq_false_iff_ne.mpr c15;have c15b1:=bne_iff_ne.mpr c15;(first|rw[c15b0]|(simp only[i64_w,i32_w];rw[c15b0])|skip);have H':=Ak H;clear H;go_wp2;go_meet;case rel=>exact⟨_,(decide (x7_6<t105)),rfl,H',⟨by have:=HK1.out;have:=HJ6.out;first|omega|exact Nat.le_refl _⟩,⟨by(with_reducible repeat(first|apply Kd.R_alloc|apply Kd.R_drewN|apply Kd.R_drew));exact HO_3.out⟩,⟨by repeat(first|exact HB.out|apply below_alloc|apply pw_below_drewN|apply below_drew1)⟩⟩
       case rest=>
        clear HC14;obtain⟨kq,x53_13,rfl,HA,HJ13,HO_3,HB⟩:=hcut;cases kq with
        |zero=>exact absurd HA.out (by simp [spec_l1Read.j3])
        |succ kj13=>
         have H:=HA.out;clear HA;simp only[spec_l1Read.j3]at H;by_cases c16:x53_13=true
         ·subst c16;rw[if_pos rfl]at H;by_cases c17:x3_1.length<17592186044416
          ·rw[if_pos c17]at H;have LMc17:=Ak c17;clear c17;obtain⟨y108,hy108⟩: ∃y_:List Int,y_=(x3_1++ [65533]):=⟨_,rfl⟩
           replace H:(spec_l1Read.l0 kj13 l0 y108 (wrap64 (x4_1+x7_6)))=some r:=by rw[hy108];exact H
           have Ny108:=Ak hy108;clear hy108;have H':=Ak H;clear H;go_wp2_with (first|((with_reducible refine gate_builtin (b:= .append) (xs:= #[.tmp 54, .tmp 55]) rfl ?_);(try(refine gate_guard (by rfl) ?_;dsimp only));at_builtin;refine Kd.R_append (Kd.int .i64) (w0:=w) w.heap.size rfl (.tmp 54) (.tmp 55) 39 3 (.int .i64 0) 8 rfl Tryz.underlying39 info3 rfl (by decide) (by omega) u3 x3_1 65533 [.int .i64 65533] (fun _=>True) (fun _=>False) rfl rfl ?aP (fun _ hk=>hk.elim) ?aF ?aO ?aB ?aS ?aL ?_;(case aP=>exact rfl);(case aB=>exact(by repeat(first|exact HB.out|apply below_alloc|apply pw_below_drewN|apply below_drew1)));(case aF=>exact(fun _ _=>trivial));(case aO=>exact HO_3.out);(case aS=>exact(below_size (by repeat(first|exact HB.out|apply below_alloc|apply pw_below_drewN|apply below_drew1))));(case aL=>have:=LMc17.out;omega);intro v109 w18 ho hb hg hat;rw[←Ny108.out]at ho;replace HO110:=Ak (ho);replace HB:=Ak (hb);clear ho hb hg hat));go_roundg kj13;case measure=>have:=HK1.out;have:=HJ6.out;have:=HJ13.out;omega
           case rel=>exact⟨(y108),(wrap64 (x4_1+x7_6)),rfl,H',⟨by have:=HK1.out;have:=HJ6.out;have:=HJ13.out;omega⟩,⟨by(with_reducible repeat(first|apply Kd.R_alloc|apply Kd.R_drewN|apply Kd.R_drew));exact HO110.out⟩,⟨by repeat(first|exact HB.out|apply below_alloc|apply pw_below_drewN|apply below_drew1)⟩⟩
          ·rw[if_neg c17]at H;exact absurd H (by simp)
         ·replace c16:=Bool.eq_false_iff.mpr c16;subst c16;rw[if_neg (show ¬(false=true)by decide)]at H;have HC19:=Ak H;clear H;go_upto_block 4 with(fail)
          go_cut [8] (fun v8 wc=> ∃(kq:Nat) (x8_18:Int),v8= .int .i64 x8_18∧Aside0 (spec_l1Read.j4 kq l0 x3_1 x4_1 t105 x8_18=some r)∧Aside0 (kq≤kj13)∧Aside0 (Kd.R (Kd.int .i64) 3 wc w.heap.size (fun _=>True) u3 x3_1)∧Aside0 (Below w.heap.size w wc));case first=>
           have H:=HC19.out;clear HC19;by_cases c20:t105=2
           ·rw[if_pos c20]at H;have c20b0:=beq_iff_eq.mpr c20;have c20b1:=bne_eq_false_iff_eq.mpr c20;clear c20;(first|rw[c20b0]|(simp only[i64_w,i32_w];rw[c20b0])|skip);have H':=Ak H;clear H;go_wp2;go_meet;case rel=>exact⟨_,(wrap64 ((wrap64 (rd l0 x4_1))- 192)),rfl,H',⟨by have:=HK1.out;have:=HJ6.out;have:=HJ13.out;first|omega|exact Nat.le_refl _⟩,⟨by(with_reducible repeat(first|apply Kd.R_alloc|apply Kd.R_drewN|apply Kd.R_drew));exact HO_3.out⟩,⟨by repeat(first|exact HB.out|apply below_alloc|apply pw_below_drewN|apply below_drew1)⟩⟩
           ·rw[if_neg c20]at H;have c20b0:=beq_eq_false_iff_ne.mpr c20;have c20b1:=bne_iff_ne.mpr c20;(first|rw[c20b0]|(simp only[i64_w,i32_w];rw[c20b0])|skip);by_cases c21:t105=3
            ·rw[if_pos c21]at H;have c21b0:=beq_iff_eq.mpr c21;have c21b1:=bne_eq_false_iff_eq.mpr c21;clear c21;have H':=Ak H;clear H;go_wp2;go_meet;case rel=>exact⟨_,(wrap64 ((wrap64 (rd l0 x4_1))- 224)),rfl,H',⟨by have:=HK1.out;have:=HJ6.out;have:=HJ13.out;first|omega|exact Nat.le_refl _⟩,⟨by(with_reducible repeat(first|apply Kd.R_alloc|apply Kd.R_drewN|apply Kd.R_drew));exact HO_3.out⟩,⟨by repeat(first|exact HB.out|apply below_alloc|apply pw_below_drewN|apply below_drew1)⟩⟩
            ·rw[if_neg c21]at H;have c21b0:=beq_eq_false_iff_ne.mpr c21;have c21b1:=bne_iff_ne.mpr c21;by_cases c22:t105=4
             ·rw[if_pos c22]at H;have c22b0:=beq_iff_eq.mpr c22;have c22b1:=bne_eq_false_iff_eq.mpr c22;clear c22;have H':=Ak H;clear H;go_wp2;go_meet;case rel=>exact⟨_,(wrap64 ((wrap64 (rd l0 x4_1))- 240)),rfl,H',⟨by have:=HK1.out;have:=HJ6.out;have:=HJ13.out;first|omega|exact Nat.le_refl _⟩,⟨by(with_reducible repeat(first|apply Kd.R_alloc|apply Kd.R_drewN|apply Kd.R_drew));exact HO_3.out⟩,⟨by repeat(first|exact HB.out|apply below_alloc|apply pw_below_drewN|apply below_drew1)⟩⟩
             ·rw[if_neg c22]at H;have c22b0:=beq_eq_false_iff_ne.mpr c22;have c22b1:=bne_iff_ne.mpr c22;have H':=Ak H;clear H;go_wp2;go_meet;case rel=>exact⟨_,((wrap64 (rd l0 x4_1))),rfl,H',⟨by have:=HK1.out;have:=HJ6.out;have:=HJ13.out;first|omega|exact Nat.le_refl _⟩,⟨by(with_reducible repeat(first|apply Kd.R_alloc|apply Kd.R_drewN|apply Kd.R_drew));exact HO_3.out⟩,⟨by repeat(first|exact HB.out|apply below_alloc|apply pw_below_drewN|apply below_drew1)⟩⟩
          case rest=>
           clear HC19;obtain⟨kq,x8_18,rfl,HA,HJ18,HO_3,HB⟩:=hcut;cases kq with
           |zero=>exact absurd HA.out (by simp [spec_l1Read.j4])
           |succ kj18=>
            have H:=HA.out;clear HA;simp only[spec_l1Read.j4]at H;have H':=Ak H;clear H;go_wp2;go_loopg [8,9] kj18 (fun kq v8 v9 w'=> ∃(x8_5:Int) (x9_5:Int),v8= .int .i64 x8_5∧v9= .int .i64 x9_5∧Aside0 (spec_l1Read.l2 kq l0 x3_1 x4_1 t105 x8_5 x9_5=some r)∧Aside0 (kq≤kj18)∧Aside0 (Kd.R (Kd.int .i64) 3 w' w.heap.size (fun _=>True) u3 x3_1)∧Aside0 (Below w.heap.size w w'));case atStart=>exact⟨(x8_18),(1),rfl,rfl,H',⟨Nat.le_refl _⟩,⟨by(with_reducible repeat(first|apply Kd.R_alloc|apply Kd.R_drewN|apply Kd.R_drew));exact HO_3.out⟩,⟨by repeat(first|exact HB.out|apply below_alloc|apply pw_below_drewN|apply below_drew1)⟩⟩
            case round=>
             clear H';obtain⟨x8_5,x9_5,rfl,rfl,HA,HK5,HO_3,HB⟩:=hrel;cases gk with
             |zero=>exact absurd HA.out (by simp [spec_l1Read.l2])
             |succ k5=>
              have H:=HA.out;clear HA;simp only[spec_l1Read.l2]at H;by_cases c23:x9_5<t105
              ·rw[if_pos c23]at H;have c23b0:=decide_eq_true c23;clear c23;obtain⟨ji24,hji24⟩: ∃j_:Int,(wrap64 (x4_1+x9_5))=j_:=⟨_,rfl⟩
               replace H:(if 0≤(ji24)then(if(ji24)<(l0.length:Int)then(spec_l1Read.l2 k5 l0 x3_1 x4_1 t105 (wrap64 ((wrap64 ((wrap64 (64*x8_5))+(wrap64 (rd l0 (ji24)))))- 128)) (wrap64 (x9_5+1)))else(none))else(none))=some r:=by first|(rw[hji24]at H;exact H)|(simp only[hji24]at H⊢;exact H)
               have hji24w:(IntKind.i64.wrap (x4_1+x9_5))=ji24:=(i64_w _).trans hji24;by_cases c25:0≤(ji24)
               ·rw[if_pos c25]at H;have c25b0:=decide_eq_true c25;clear c25;by_cases c26:(ji24)<(l0.length:Int)
                ·rw[if_pos c26]at H;have c26b0:=decide_eq_true c26;clear c26;have H':=Ak H;clear H;have p111:0≤((ji24):Int):=of_decide_eq_true (by assumption);have q111:(ji24)<(l0.length:Int):=of_decide_eq_true (by assumption);obtain⟨ad111,e111,hx111_0⟩:=Kd.at_int HR0.out (ji24) p111 q111;obtain rfl:ad104=ad111:=(by injection e111)
                 replace hx111_0:=pw_cell_below HB.out hx111_0;replace p111:=eq_true p111;replace q111:=eq_true q111;go_wp2;go_roundg k5;case measure=>have:=HK1.out;have:=HJ6.out;have:=HJ13.out;have:=HJ18.out;have:=HK5.out;omega
                 case rel=>exact⟨(wrap64 ((wrap64 ((wrap64 (64*x8_5))+(wrap64 (rd l0 (ji24)))))- 128)),(wrap64 (x9_5+1)),(by first|rfl|(simp;done)|(simp only[←hji24]<;>(first|rfl|simp))|(simp [*];done)),rfl,H',⟨by have:=HK1.out;have:=HJ6.out;have:=HJ13.out;have:=HJ18.out;have:=HK5.out;omega⟩,⟨by(with_reducible repeat(first|apply Kd.R_alloc|apply Kd.R_drewN|apply Kd.R_drew));exact HO_3.out⟩,⟨by repeat(first|exact HB.out|apply below_alloc|apply pw_below_drewN|apply below_drew1)⟩⟩
                ·rw[if_neg c26]at H;exact absurd H (by simp)
               ·rw[if_neg c25]at H;exact absurd H (by simp)
              ·rw[if_neg c23]at H;have c23b0:=decide_eq_false c23;clear c23;by_cases c27:x3_1.length<17592186044416
               ·rw[if_pos c27]at H;have LMc27:=Ak c27;clear c27;obtain⟨y112,hy112⟩: ∃y_:List Int,y_=(x3_1++ [x8_5]):=⟨_,rfl⟩
                replace H:(spec_l1Read.l0 k5 l0 y112 (wrap64 (x4_1+t105)))=some r:=by rw[hy112];exact H
                have Ny112:=Ak hy112;clear hy112;have H':=Ak H;clear H;go_wp2_with (first|((with_reducible refine gate_builtin (b:= .append) (xs:= #[.tmp 90, .tmp 92]) rfl ?_);(try(refine gate_guard (by rfl) ?_;dsimp only));at_builtin;refine Kd.R_append (Kd.int .i64) (w0:=w) w.heap.size rfl (.tmp 90) (.tmp 92) 39 3 (.int .i64 0) 8 rfl Tryz.underlying39 info3 rfl (by decide) (by omega) u3 x3_1 x8_5 [.int .i64 x8_5] (fun _=>True) (fun _=>False) rfl rfl ?aP (fun _ hk=>hk.elim) ?aF ?aO ?aB ?aS ?aL ?_;(case aP=>exact rfl);(case aB=>exact(by repeat(first|exact HB.out|apply below_alloc|apply pw_below_drewN|apply below_drew1)));(case aF=>exact(fun _ _=>trivial));(case aO=>exact HO_3.out);(case aS=>exact(below_size (by repeat(first|exact HB.out|apply below_alloc|apply pw_below_drewN|apply below_drew1))));(case aL=>have:=LMc27.out;omega);intro v113 w28 ho hb hg hat;rw[←Ny112.out]at ho;replace HO114:=Ak (ho);replace HB:=Ak (hb);clear ho hb hg hat));go_roundg k5;case measure=>have:=HK1.out;have:=HJ6.out;have:=HJ13.out;have:=HJ18.out;have:=HK5.out;omega
                case rel=>exact⟨(y112),(wrap64 (x4_1+t105)),rfl,H',⟨by have:=HK1.out;have:=HJ6.out;have:=HJ13.out;have:=HJ18.out;have:=HK5.out;omega⟩,⟨by(with_reducible repeat(first|apply Kd.R_alloc|apply Kd.R_drewN|apply Kd.R_drew));exact HO114.out⟩,⟨by repeat(first|exact HB.out|apply below_alloc|apply pw_below_drewN|apply below_drew1)⟩⟩
               ·rw[if_neg c27]at H;exact absurd H (by simp)
    ·rw[if_neg c5]at H;exact absurd H (by simp)
   ·rw[if_neg c4]at H;have c4b0:=decide_eq_false c4;clear c4;obtain rfl:=Oi H;go_wp2;go_ret;exact⟨_,rfl,by(with_reducible repeat(first|apply Kd.R_alloc|apply Kd.R_drewN|apply Kd.R_drew));exact HO_3.out,by repeat(first|exact HB.out|apply below_alloc|apply pw_below_drewN|apply below_drew1)⟩
def spec_UtfRead.j0:Nat→List Int→Bool→Option (List Int)
 |0,_,_=>none
 |k+1,x0,x27=>if x27=true then(if 3≤(x0.length:Int)then((spec_l1Read.f k (x0.drop 3)).bind fun t108=>(some t108))else(none))else((spec_l1Read.f k x0).bind fun t111=>(some t111))
def spec_UtfRead.f(k:Nat)(l0:List Int):Option (List Int):=if(l0.length:Int)>3000 then(some (([]:List Int)))else(if(l0.length:Int)≥3 then(if 0<(l0.length:Int)then(if(rd l0 0)=239 then(if 1<(l0.length:Int)then(if(rd l0 1)=187 then(if 2<(l0.length:Int)then(spec_UtfRead.j0 k l0 ((rd l0 2)==191))else(none))else(spec_UtfRead.j0 k l0 false))else(none))else(spec_UtfRead.j0 k l0 false))else(none))else(spec_UtfRead.j0 k l0 false))
theorem spec_UtfRead.mono_l: ∀k,(∀y0 y1,LeO (spec_UtfRead.j0 k y0 y1) (spec_UtfRead.j0 (k+1) y0 y1))
 |0=>fun _ _ r h=>by simp [spec_UtfRead.j0]at h
 |k+1=>by
  have ih0:=spec_UtfRead.mono_l k
  ·intro y0 y1;unfold spec_UtfRead.j0;repeat' (with_reducible first|exact ih0 _ _|exact spec_l1Read.mono _ _|exact LeO.refl _|exact LeO.none _|refine LeO.ite ?_ ?_|refine LeO.bind ?_ (fun _=> ?_))
theorem spec_UtfRead.mono: ∀a0 k,LeO (spec_UtfRead.f k a0) (spec_UtfRead.f (k+1) a0):=by
 intro a0 k;have ih0:=spec_UtfRead.mono_l k;unfold spec_UtfRead.f;repeat' (with_reducible first|exact ih0 _ _|exact spec_l1Read.mono _ _|exact LeO.refl _|exact LeO.none _|refine LeO.ite ?_ ?_|refine LeO.bind ?_ (fun _=> ?_))
theorem spec_UtfRead.calls(k:Nat)(A0:Option Addr)(c0:Nat)(l0:List Int)(r:List Int)(w:World)(hr0:Kd.C (Kd.int .u8) w A0 l0.length l0)(hc0:l0.length≤c0)(h:spec_UtfRead.f k l0=some r):
 Calls Tryz.prog 103 #[.slice A0 l0.length c0] w fun e w'=> ∃v0_:Value,e= .returned (v0_)∧Kd.R (Kd.int .i64) 3 w' w.heap.size (fun _=>True) v0_ r∧Below w.heap.size w w':=by
 have HR0:=Ak hr0;have HC0:=Ak hc0;clear hr0 hc0;have HB:=Ak (Below.refl w.heap.size w);have H:(if(l0.length:Int)>3000 then(some (([]:List Int)))else(if(l0.length:Int)≥3 then(if 0<(l0.length:Int)then(if(rd l0 0)=239 then(if 1<(l0.length:Int)then(if(rd l0 1)=187 then(if 2<(l0.length:Int)then(spec_UtfRead.j0 k l0 ((rd l0 2)==191))else(none))else(spec_UtfRead.j0 k l0 false))else(none))else(spec_UtfRead.j0 k l0 false))else(none))else(spec_UtfRead.j0 k l0 false)))=some r:=h;clear h;by_cases c2:(l0.length:Int)>3000
 ·rw[if_pos c2]at H;have c2b0:decide (3000<(l0.length:Int))=true:=decide_eq_true c2;have c2b1:decide (3000<l0.length)=true:=decide_eq_true (by omega);clear c2;obtain⟨y101,hy101⟩: ∃y_:List Int,y_=(([]:List Int)):=⟨_,rfl⟩
  replace H:(some y101)=some r:=by rw[hy101];exact H
  have Ny101:=Ak hy101;clear hy101;obtain rfl:=Oi H;go_enter Tryz.func103,Tryz.ntmps103;go_wp2_with (first|((with_reducible refine gate_dst (N:=6) rfl ?_);refine Kd.R_lit (Kd.int .i64) _ 3 ?hg (N:=6) ?hd (xs:=([]:List Int)) (inner:= []) (ok:=fun _=>True) (okp:=fun _=>True) ?hr ?hp (fun _ hk=>hk) trivial (Below.refl _ _) (Nat.le_refl _) (by simp) ?_;(case hd=>rfl);(case hg=>rfl);(case hr=>first|(go_simp;done)|(go_simp;rfl));(case hp=>exact(Reps.none _ _));intro v102 w3 ho4 hb hg_ hnew_;clear hg_ hnew_;(first|rw[←Ny101.out]at ho4|(simp only[Int.reduceToNat]at ho4;rw[←Ny101.out]at ho4));replace HO103:=Ak (Kd.R_lower ho4 (below_size (HB.out)));replace HB:=Ak (below_step (HB.out) hb);clear hb ho4));go_ret;exact⟨_,rfl,by(with_reducible repeat(first|apply Kd.R_alloc|apply Kd.R_drewN|apply Kd.R_drew));exact HO103.out,HB.out⟩
 ·rw[if_neg c2]at H;have c2b0:decide (3000<(l0.length:Int))=false:=decide_eq_false c2;have c2b1:decide (3000<l0.length)=false:=decide_eq_false (by omega);clear c2;have HC5:=Ak H;clear H;go_enter Tryz.func103,Tryz.ntmps103;go_upto_region 3 with(fail)
  go_cut [27] (fun v27 wc=> ∃(kq:Nat) (x27_4:Bool),v27= .bool x27_4∧Aside0 (spec_UtfRead.j0 kq l0 x27_4=some r)∧Aside0 (kq≤k)∧Aside0 (Below w.heap.size w wc));case first=>
   have H:=HC5.out;clear HC5;by_cases c6:(l0.length:Int)≥3
   ·rw[if_pos c6]at H;have c6b0:decide (3≤(l0.length:Int))=true:=decide_eq_true c6;have c6b1:decide (3≤l0.length)=true:=decide_eq_true (by omega);clear c6;(first|rw[c6b0]|(simp only[i64_w,i32_w];rw[c6b0])|skip);by_cases c7:0<(l0.length:Int)
    ·rw[if_pos c7]at H;have c7b0:=decide_eq_true c7;have c7b1:decide (0<l0.length)=true:=decide_eq_true (by omega);clear c7;by_cases c8:(rd l0 0)=239
     ·rw[if_pos c8]at H;have c8b0:=beq_iff_eq.mpr c8;have c8b1:=bne_eq_false_iff_eq.mpr c8;clear c8;by_cases c9:1<(l0.length:Int)
      ·rw[if_pos c9]at H;have c9b0:=decide_eq_true c9;have c9b1:decide (1<l0.length)=true:=decide_eq_true (by omega);clear c9;by_cases c10:(rd l0 1)=187
       ·rw[if_pos c10]at H;have c10b0:=beq_iff_eq.mpr c10;have c10b1:=bne_eq_false_iff_eq.mpr c10;clear c10;by_cases c11:2<(l0.length:Int)
        ·rw[if_pos c11]at H;have c11b0:=decide_eq_true c11;have c11b1:decide (2<l0.length)=true:=decide_eq_true (by omega);clear c11;have H':=Ak H;clear H;have p104:0≤(0:Int):=(by omega)
         have q104:0<(l0.length:Int):=of_decide_eq_true (by assumption);obtain⟨ad104,e104,hx104_0⟩:=Kd.at_int HR0.out 0 p104 q104;cases e104;have qi104:(0<l0.length)=True:=eq_true (by omega);(try rw[show((0:Int)).toNat=0 from rfl]at hx104_0);(try rw[Addr.add_zero']at hx104_0);replace hx104_0:=pw_cell_below HB.out hx104_0;replace p104:=eq_true p104;replace q104:=eq_true q104;have p105:0≤(1:Int):=(by omega)
         have q105:1<(l0.length:Int):=of_decide_eq_true (by assumption);obtain⟨ad105,e105,hx105_0⟩:=Kd.at_int HR0.out 1 p105 q105;obtain rfl:ad104=ad105:=(by injection e105)
         (try simp only[show(1:Int).toNat=1 from rfl,Nat.reduceMul,Nat.reduceEqDiff,Go.Addr.add,↓reduceIte]at hx105_0);have qi105:(1<l0.length)=True:=eq_true (by omega);(try rw[show((1:Int)).toNat=1 from rfl]at hx105_0);replace hx105_0:=pw_cell_below HB.out hx105_0;replace p105:=eq_true p105;replace q105:=eq_true q105;have p106:0≤(2:Int):=(by omega)
         have q106:2<(l0.length:Int):=of_decide_eq_true (by assumption);obtain⟨ad106,e106,hx106_0⟩:=Kd.at_int HR0.out 2 p106 q106;obtain rfl:ad104=ad106:=(by injection e106)
         (try simp only[show(2:Int).toNat=2 from rfl,Nat.reduceMul,Nat.reduceEqDiff,Go.Addr.add,↓reduceIte]at hx106_0);have qi106:(2<l0.length)=True:=eq_true (by omega);(try rw[show((2:Int)).toNat=2 from rfl]at hx106_0);replace hx106_0:=pw_cell_below HB.out hx106_0;replace p106:=eq_true p106;replace q106:=eq_true q106;go_wp2;go_meet;case rel=>exact⟨_,(((rd l0 2)==191)),rfl,H',⟨by first|omega|exact Nat.le_refl _⟩,⟨HB.out⟩⟩
        ·rw[if_neg c11]at H;exact absurd H (by simp)
       ·rw[if_neg c10]at H;have c10b0:=beq_eq_false_iff_ne.mpr c10;have c10b1:=bne_iff_ne.mpr c10;have H':=Ak H;clear H;have p104:0≤(0:Int):=(by omega)
        have q104:0<(l0.length:Int):=of_decide_eq_true (by assumption);obtain⟨ad104,e104,hx104_0⟩:=Kd.at_int HR0.out 0 p104 q104;cases e104;have qi104:(0<l0.length)=True:=eq_true (by omega);(try rw[show((0:Int)).toNat=0 from rfl]at hx104_0);(try rw[Addr.add_zero']at hx104_0);replace hx104_0:=pw_cell_below HB.out hx104_0;replace p104:=eq_true p104;replace q104:=eq_true q104;have p105:0≤(1:Int):=(by omega)
        have q105:1<(l0.length:Int):=of_decide_eq_true (by assumption);obtain⟨ad105,e105,hx105_0⟩:=Kd.at_int HR0.out 1 p105 q105;obtain rfl:ad104=ad105:=(by injection e105)
        (try simp only[show(1:Int).toNat=1 from rfl,Nat.reduceMul,Nat.reduceEqDiff,Go.Addr.add,↓reduceIte]at hx105_0);have qi105:(1<l0.length)=True:=eq_true (by omega);(try rw[show((1:Int)).toNat=1 from rfl]at hx105_0);replace hx105_0:=pw_cell_below HB.out hx105_0;replace p105:=eq_true p105;replace q105:=eq_true q105;go_wp2;go_meet;case rel=>exact⟨_,(false),rfl,H',⟨by first|omega|exact Nat.le_refl _⟩,⟨HB.out⟩⟩
      ·rw[if_neg c9]at H;exact absurd H (by simp)
     ·rw[if_neg c8]at H;have c8b0:=beq_eq_false_iff_ne.mpr c8;have c8b1:=bne_iff_ne.mpr c8;have H':=Ak H;clear H;have p104:0≤(0:Int):=(by omega)
      have q104:0<(l0.length:Int):=of_decide_eq_true (by assumption);obtain⟨ad104,e104,hx104_0⟩:=Kd.at_int HR0.out 0 p104 q104;cases e104;have qi104:(0<l0.length)=True:=eq_true (by omega);(try rw[show((0:Int)).toNat=0 from rfl]at hx104_0);(try rw[Addr.add_zero']at hx104_0);replace hx104_0:=pw_cell_below HB.out hx104_0;replace p104:=eq_true p104;replace q104:=eq_true q104;go_wp2;go_meet;case rel=>exact⟨_,(false),rfl,H',⟨by first|omega|exact Nat.le_refl _⟩,⟨HB.out⟩⟩
    ·rw[if_neg c7]at H;exact absurd H (by simp)
   ·rw[if_neg c6]at H;have c6b0:decide (3≤(l0.length:Int))=false:=decide_eq_false c6;have c6b1:decide (3≤l0.length)=false:=decide_eq_false (by omega);clear c6;(first|rw[c6b0]|(simp only[i64_w,i32_w];rw[c6b0])|skip);have H':=Ak H;clear H;go_wp2;go_meet;case rel=>exact⟨_,(false),rfl,H',⟨by first|omega|exact Nat.le_refl _⟩,⟨HB.out⟩⟩
  case rest=>
   clear HC5;obtain⟨kq,x27_4,rfl,HA,HJ4,HB⟩:=hcut;cases kq with
   |zero=>exact absurd HA.out (by simp [spec_UtfRead.j0])
   |succ kj4=>
    have H:=HA.out;clear HA;simp only[spec_UtfRead.j0]at H;by_cases c12:x27_4=true
    ·subst c12;rw[if_pos rfl]at H;by_cases c13:3≤(l0.length:Int)
     ·rw[if_pos c13]at H;have c13b0:=eq_true c13;have c13b1:=decide_eq_true c13;clear c13;replace H:=Ob H;obtain⟨t108,A140,H⟩:=H;replace H:(some t108)=some r:=H;have A14:=Ak A140;clear A140;obtain rfl:=Oi H;obtain⟨i015,hi015,_,hsz15,_⟩:=info_parts info5;obtain⟨A15,hcut15,hA15,hC15⟩:=print_drop_of (P:=Tryz.prog) (Value.int .u8) 0 33 5 .i64 Tryz.underlying33 hi015 hsz15 A0 c0 l0 3 (by omega) (of_decide_eq_true (by assumption)) HC0.out;have HR107:=Ak (Kd.C_of_reads (h1:=fun _=>rfl) (hA15 _ (Kd.reads_of_C HR0.out)));have HC107:=Ak hC15;clear hA15 hC15 hi015 hsz15;go_wp2_with (first|((with_reducible refine gate_callee (f:=114) rfl ?_);refine goesL_ (some 30) rfl rfl Tryz.func114 (by kernel_rfl) rfl #[.slice A15 (l0.drop 3).length (c0- 3)] rfl (by(try simp only[List.map_toArray,List.map_cons,List.map_nil]);first|done|(rw[show(l0.drop 3).length=(l0.length- 3)from List.length_drop]<;>rfl)|rfl|(simp only[List.length_drop,List.length_take];rfl)) ?_;(with_reducible refine(spec_l1Read.calls kj4 _ _ (l0.drop 3) t108 _ ?side1 ?side2 A14.out).mono ?_);(case side1=>exact(Kd.C_below HR107.out HB.out));(case side2=>exact HC107.out);rintro e w16 ⟨v109,rfl,ho0,hb⟩;refine⟨_,rfl, ?_⟩;replace HO110:=Ak (Kd.R_lower ho0 (below_size (HB.out)));replace HB:=Ak (below_step (HB.out) hb);(try clear hb);(try clear ho0)));go_ret;exact⟨_,rfl,by(with_reducible repeat(first|apply Kd.R_alloc|apply Kd.R_drewN|apply Kd.R_drew));exact HO110.out,HB.out⟩
     ·rw[if_neg c13]at H;exact absurd H (by simp)
    ·replace c12:=Bool.eq_false_iff.mpr c12;subst c12;rw[if_neg (show ¬(false=true)by decide)]at H;replace H:=Ob H;obtain⟨t111,A170,H⟩:=H;replace H:(some t111)=some r:=H;have A17:=Ak A170;clear A170;obtain rfl:=Oi H;go_wp2_with (first|(go_at_call 114;(with_reducible refine(spec_l1Read.calls kj4 _ _ l0 t111 _ ?side1 ?side2 A17.out).mono ?_);(case side1=>exact(Kd.C_below HR0.out HB.out));(case side2=>exact HC0.out);rintro e w18 ⟨v112,rfl,ho0,hb⟩;replace HO113:=Ak (Kd.R_lower ho0 (below_size (HB.out)));replace HB:=Ak (below_step (HB.out) hb);(try clear hb);(try clear ho0)));go_ret;exact⟨_,rfl,by(with_reducible repeat(first|apply Kd.R_alloc|apply Kd.R_drewN|apply Kd.R_drew));exact HO113.out,HB.out⟩
def spec_UtfOk.f(k:Nat)(l0:List Int):Option (Bool):=if(l0.length:Int)≤3000 then((spec_UtfRead.f k l0).bind fun t101=>((spec_PointsPut.f k t101).bind fun t104=>(some ((strOfNums t104).toList==(strOfNums l0).toList))))else(some false)
theorem spec_UtfOk.mono: ∀a0 k,LeO (spec_UtfOk.f k a0) (spec_UtfOk.f (k+1) a0):=by
 intro a0 k;unfold spec_UtfOk.f;repeat' (with_reducible first|exact spec_PointsPut.mono _ _|exact spec_UtfRead.mono _ _|exact LeO.refl _|exact LeO.none _|refine LeO.ite ?_ ?_|refine LeO.bind ?_ (fun _=> ?_))
def spec_UtfOk.T1:Bool×List (List Nat×List Nat):=(true,[([],[]),([0],[0]),([1],[1]),([2],[2]),([3],[3]),([4,3,3],[3,4]),([5,5,3],[3,5]),([6,3],[3,6]),([3],[3]),([8,3],[3,8]),([7,9,3],[3,7,9]),([3,10],[3,10]),([11,6,0,1,2,3,4,5,6,7,8,9,10,11],[11])])
def spec_UtfOk.B1:List Nat:= [0,1,3,7,15,31,63,127,15,271,1023,2047,4095]
theorem spec_UtfOk.tab1:rtab .any (opsOf Tryz.f81 1)=spec_UtfOk.T1:=by kernel_rfl
theorem spec_UtfOk.bits1:waitsOk spec_UtfOk.T1.2 spec_UtfOk.B1=true:=by kernel_rfl
theorem spec_UtfOk.calls(k:Nat)(A0:Option Addr)(c0:Nat)(l0:List Int)(r:Bool)(w:World)(hr0:Kd.C (Kd.int .u8) w A0 l0.length l0)(hc0:l0.length≤c0)(h:spec_UtfOk.f k l0=some r):
 Calls Tryz.prog 81 #[.slice A0 l0.length c0] w fun e w'=>e= .returned (.bool r)∧Below w.heap.size w w':=by
 have HR0:=Ak hr0;have HC0:=Ak hc0;clear hr0 hc0;have HB:=Ak (Below.refl w.heap.size w);have H:(if(l0.length:Int)≤3000 then((spec_UtfRead.f k l0).bind fun t101=>((spec_PointsPut.f k t101).bind fun t104=>(some ((strOfNums t104).toList==(strOfNums l0).toList))))else(some false))=some r:=h;clear h;by_cases c2:(l0.length:Int)≤3000
 ·rw[if_pos c2]at H;have c2b0:=decide_eq_true c2;have c2b1:decide (l0.length≤3000)=true:=decide_eq_true (by omega);clear c2;replace H:=Ob H;obtain⟨t101,A30,H⟩:=H;replace H:((spec_PointsPut.f k t101).bind fun t104=>(some ((strOfNums t104).toList==(strOfNums l0).toList)))=some r:=H;have A3:=Ak A30;clear A30;replace H:=Ob H;obtain⟨t104,A40,H⟩:=H;replace H:(some ((strOfNums t104).toList==(strOfNums l0).toList))=some r:=H;have A4:=Ak A40;clear A40;obtain rfl:=Oi H;go_enter Tryz.func81,Tryz.ntmps81;try go_wp2
  have n0_:=Ak (below_drew1 HB.out);clear HB;have HB:=n0_;clear n0_;refine start_ (n:=13) (S:=fun w'=>Sem.run Tryz.prog (convert 33 9 (.slice A0 l0.length c0)) w'= .ok (.string (strOfNums l0)) w') (ds:= []) #[false,false,false,false,false,false,false,false,false,false,false,false,false] (by kernel_rfl) rfl rfl ((Kd.C_string (P:=Tryz.prog) (A:=A0) (c:=c0) Tryz.underlying33 Tryz.underlying5 Tryz.underlying9 (Kd.C_below HR0.out HB.out))) (fun hHeld=> ?_);refine with_tabW spec_UtfOk.tab1 spec_UtfOk.bits1 (fun HT_ HW_=> ?_);generalize w.drew=w5 at HB hHeld⊢;refine pure_ (i:=0) (N:=some 3) (v:= ?_) (a':= ?_) #[true,false,false,false,false,false,false,false,false,false,false,false,false] rfl rfl (any_of HT_.out (by kernel_rfl)) (fun _ _ _ h=>h) (Or.inl ⟨by rfl, ?_⟩) ?_ ?_
  rotate_left
  ·intro w';go_simp;with_reducible rfl
  rotate_left
  ·simp only[Act.put,List.setIfInBounds_toArray,List.set_cons_zero,List.set_cons_succ,i64_w,i32_w];rfl
  refine pure_ (i:=1) (N:=some 4) (v:= ?_) (a':= ?_) #[true,true,false,false,false,false,false,false,false,false,false,false,false] rfl rfl (any_of HT_.out (by kernel_rfl)) (fun _ _ _ h=>h) (Or.inl ⟨by rfl, ?_⟩) ?_ ?_
  rotate_left
  ·intro w';go_simp;with_reducible rfl
  rotate_left
  ·simp only[Act.put,List.setIfInBounds_toArray,List.set_cons_zero,List.set_cons_succ,i64_w,i32_w];rfl
  refine pure_ (i:=2) (N:=some 5) (v:= ?_) (a':= ?_) #[true,true,true,false,false,false,false,false,false,false,false,false,false] rfl rfl (any_of HT_.out (by kernel_rfl)) (fun _ _ _ h=>h) (Or.inl ⟨by rfl, ?_⟩) ?_ ?_
  rotate_left
  ·intro w';go_simp;with_reducible rfl
  rotate_left
  ·simp only[Act.put,List.setIfInBounds_toArray,List.set_cons_zero,List.set_cons_succ,i64_w,i32_w];rfl
  refine pure_ (i:=3) (N:=some 6) (v:= ?_) (a':= ?_) #[true,true,true,true,false,false,false,false,false,false,false,false,false] rfl rfl (any_of HT_.out (by kernel_rfl)) (fun _ _ _ h=>h) (Or.inl ⟨by rfl, ?_⟩) ?_ ?_
  rotate_left
  ·intro w';go_simp;with_reducible rfl
  rotate_left
  ·simp only[Act.put,List.setIfInBounds_toArray,List.set_cons_zero,List.set_cons_succ,i64_w,i32_w];rfl
  refine pure_ (i:=4) (N:=some 7) (v:= ?_) (a':= ?_) #[true,true,true,true,true,false,false,false,false,false,false,false,false] rfl rfl (any_of HT_.out (by kernel_rfl)) (fun _ _ _ h=>h) (Or.inl ⟨by rfl, ?_⟩) ?_ ?_
  rotate_left
  ·intro w';go_simp;with_reducible rfl
  rotate_left
  ·simp only[Act.put,List.setIfInBounds_toArray,List.set_cons_zero,List.set_cons_succ,i64_w,i32_w];rfl
  refine pure_ (i:=8) (N:=some 11) (v:= ?_) (a':= ?_) #[true,true,true,true,true,false,false,false,true,false,false,false,false] rfl rfl (any_of HT_.out (by kernel_rfl)) (fun _ _ _ h=>h) (Or.inl ⟨by rfl, ?_⟩) ?_ ?_
  rotate_left
  ·intro w';go_simp;with_reducible rfl
  rotate_left
  ·simp only[Act.put,List.setIfInBounds_toArray,List.set_cons_zero,List.set_cons_succ,i64_w,i32_w];rfl
  refine take_ (i:=9) (N:=some 12) (v:= ?_) (a':= ?_) #[true,true,true,true,true,false,false,false,true,true,false,false,false] rfl rfl (take_ofW HT_.out HW_.out (by kernel_rfl)) (fun _ _ _ h=>h) (Or.inl ⟨by rfl, ?_⟩) hHeld ?_ ?_
  rotate_left
  ·intro w' s0;go_simp;with_reducible rfl
  rotate_left
  ·simp only[Act.put,List.setIfInBounds_toArray,List.set_cons_zero,List.set_cons_succ,i64_w,i32_w];rfl
  refine one_ (i:=5) (N:=some 8) #[true,true,true,true,true,true,false,false,true,true,false,false,false] rfl rfl (one_of HT_.out (by kernel_rfl)) (by decide) (fun K hK=> ?_);refine goes_ Tryz.func103 (by kernel_rfl) rfl #[.slice A0 l0.length c0] (by rfl) rfl rfl (by(try simp only[List.map_toArray,List.map_cons,List.map_nil]);first|done|rfl|(simp only[List.length_drop,List.length_take];rfl)) ?_;with_reducible refine(spec_UtfRead.calls k _ _ l0 t101 _ ?side1 ?side2 A3.out).mono ?_;(case side1=>exact(Kd.C_below HR0.out HB.out));(case side2=>exact HC0.out);rintro e w6 ⟨v102,rfl,ho0,hb⟩;refine⟨_,rfl, ?_⟩;have n0_:=Ak (Kd.R_lower ho0 (below_size (HB.out)));have n1_:=Ak (below_step (HB.out) hb);clear HB;have HO103:=n0_;have HB:=n1_;clear n0_ n1_;(try clear hb);(try clear hb2);(try clear hk);(try clear hi);(try clear ho0);obtain⟨Ao7,co7,eo7⟩:=Kd.R_slice HO103.out;(first|subst eo7|(injection eo7 with f1_ f2_ f3_;have f4_:=f1_.symm;have f5_:=f3_.symm;clear f1_ f2_ f3_;subst f4_;subst f5_));refine hK.out _ _ ((Kd.C_string (P:=Tryz.prog) (A:=A0) (c:=c0) Tryz.underlying33 Tryz.underlying5 Tryz.underlying9 (Kd.C_below HR0.out HB.out))) (fun hHeld=> ?_);clear hK K;refine norm_ (a':= ?_) ?_ ?_
  rotate_left
  ·show Act.put _ (some 8) _=_
   simp only[Act.put,List.setIfInBounds_toArray,List.set_cons_zero,List.set_cons_succ,i64_w,i32_w];rfl
  refine one_ (i:=6) (N:=some 9) #[true,true,true,true,true,true,true,false,true,true,false,false,false] rfl rfl (one_of HT_.out (by kernel_rfl)) (by decide) (fun K hK=> ?_);refine goes_ Tryz.func102 (by kernel_rfl) rfl #[.slice Ao7 t101.length co7] (by rfl) rfl rfl (by(try simp only[List.map_toArray,List.map_cons,List.map_nil]);first|done|rfl|(simp only[List.length_drop,List.length_take];rfl)) ?_;with_reducible refine(spec_PointsPut.calls k _ _ t101 t104 _ ?side1 ?side2 A4.out).mono ?_;(case side1=>repeat(first|exact(Kd.R_reads' HO103.out).2.2|(with_reducible refine Kd.C_alloc ?_ _)|(with_reducible refine Kd.C_drewN ?_ _)|(with_reducible refine Kd.C_drew ?_)));(case side2=>exact(Kd.R_reads' HO103.out).2.1);rintro e w8 ⟨v105,rfl,ho0,hb⟩;refine⟨_,rfl, ?_⟩;have n0_:=Ak (Kd.R_below HO103.out hb);have n1_:=Ak (Kd.R_lower ho0 (below_size (HB.out)));have n2_:=Ak (below_step (HB.out) hb);clear HO103;clear HB;have HO103:=n0_;have HO106:=n1_;have HB:=n2_;clear n0_ n1_ n2_;(try clear hb);(try clear hb2);(try clear hk);(try clear hi);(try clear ho0);refine hK.out _ _ ((Kd.C_string (P:=Tryz.prog) (A:=A0) (c:=c0) Tryz.underlying33 Tryz.underlying5 Tryz.underlying9 (Kd.C_below HR0.out HB.out))) (fun hHeld=> ?_);clear hK K;refine norm_ (a':= ?_) ?_ ?_
  rotate_left
  ·show Act.put _ (some 9) _=_
   simp only[Act.put,List.setIfInBounds_toArray,List.set_cons_zero,List.set_cons_succ,i64_w,i32_w];rfl
  refine one_ (i:=7) (N:=some 10) #[true,true,true,true,true,true,true,true,true,true,false,false,false] rfl rfl (one_of HT_.out (by kernel_rfl)) (by decide) (fun K hK=> ?_);have hcv9:=own_string (P:=Tryz.prog) Tryz.underlying33 Tryz.underlying5 Tryz.underlying9 (Kd.own_of_R HO106.out);refine value_ (w1:= ?_) (v:= ?_) (by rfl) rfl ?_ ?_
  rotate_left 2
  ·go_simp;constructor
   ·rfl
   ·rfl
  clear hcv9;refine hK.out _ _ ((Kd.C_string (P:=Tryz.prog) (A:=A0) (c:=c0) Tryz.underlying33 Tryz.underlying5 Tryz.underlying9 (Kd.C_below HR0.out HB.out))) (fun hHeld=> ?_);clear hK K;refine norm_ (a':= ?_) ?_ ?_
  rotate_left
  ·show Act.put _ (some 10) _=_
   simp only[Act.put,List.setIfInBounds_toArray,List.set_cons_zero,List.set_cons_succ,i64_w,i32_w];rfl
  refine pure_ (i:=10) (N:=some 13) (v:= ?_) (a':= ?_) #[true,true,true,true,true,true,true,true,true,true,true,false,false] rfl rfl (any_of HT_.out (by kernel_rfl)) (fun _ _ _ h=>h) (Or.inl ⟨by rfl, ?_⟩) ?_ ?_
  rotate_left
  ·intro w';go_simp;with_reducible rfl
  rotate_left
  ·simp only[Act.put,List.setIfInBounds_toArray,List.set_cons_zero,List.set_cons_succ,i64_w,i32_w];rfl
  refine pure_ (i:=11) (N:=some 14) (v:= ?_) (a':= ?_) #[true,true,true,true,true,true,true,true,true,true,true,true,false] rfl rfl (any_of HT_.out (by kernel_rfl)) (fun _ _ _ h=>h) (Or.inl ⟨by rfl, ?_⟩) ?_ ?_
  rotate_left
  ·intro w';go_simp;with_reducible rfl
  rotate_left
  ·simp only[Act.put,List.setIfInBounds_toArray,List.set_cons_zero,List.set_cons_succ,i64_w,i32_w];rfl
  refine pure_ (i:=12) (N:=some 2) (v:= ?_) (a':= ?_) #[true,true,true,true,true,true,true,true,true,true,true,true,true] rfl rfl (any_of HT_.out (by kernel_rfl)) (fun _ _ _ h=>h) (Or.inl ⟨by rfl, ?_⟩) ?_ ?_
  rotate_left
  ·intro w';go_simp;with_reducible rfl
  rotate_left
  ·simp only[Act.put,List.setIfInBounds_toArray,List.set_cons_zero,List.set_cons_succ,i64_w,i32_w];rfl
  refine done_ (done_of HT_.out (by kernel_rfl)) ?_;try go_wp2
  go_ret;exact⟨rfl,HB.out⟩
 ·rw[if_neg c2]at H;have c2b0:=decide_eq_false c2;have c2b1:decide (l0.length≤3000)=false:=decide_eq_false (by omega);clear c2;obtain rfl:=Oi H;go_enter Tryz.func81,Tryz.ntmps81;try go_wp2
  have n0_:=Ak (below_drew1 HB.out);clear HB;have HB:=n0_;clear n0_;refine start_ (n:=13) (S:=fun w'=>True) (ds:= []) #[false,false,false,false,false,false,false,false,false,false,false,false,false] (by kernel_rfl) rfl rfl trivial (fun hHeld=> ?_);refine with_tabW spec_UtfOk.tab1 spec_UtfOk.bits1 (fun HT_ HW_=> ?_);generalize w.drew=w12 at HB hHeld⊢;refine pure_ (i:=0) (N:=some 3) (v:= ?_) (a':= ?_) #[true,false,false,false,false,false,false,false,false,false,false,false,false] rfl rfl (any_of HT_.out (by kernel_rfl)) (fun _ _ _ h=>h) (Or.inl ⟨by rfl, ?_⟩) ?_ ?_
  rotate_left
  ·intro w';go_simp;with_reducible rfl
  rotate_left
  ·simp only[Act.put,List.setIfInBounds_toArray,List.set_cons_zero,List.set_cons_succ,i64_w,i32_w];rfl
  refine pure_ (i:=1) (N:=some 4) (v:= ?_) (a':= ?_) #[true,true,false,false,false,false,false,false,false,false,false,false,false] rfl rfl (any_of HT_.out (by kernel_rfl)) (fun _ _ _ h=>h) (Or.inl ⟨by rfl, ?_⟩) ?_ ?_
  rotate_left
  ·intro w';go_simp;with_reducible rfl
  rotate_left
  ·simp only[Act.put,List.setIfInBounds_toArray,List.set_cons_zero,List.set_cons_succ,i64_w,i32_w];rfl
  refine pure_ (i:=2) (N:=some 5) (v:= ?_) (a':= ?_) #[true,true,true,false,false,false,false,false,false,false,false,false,false] rfl rfl (any_of HT_.out (by kernel_rfl)) (fun _ _ _ h=>h) (Or.inl ⟨by rfl, ?_⟩) ?_ ?_
  rotate_left
  ·intro w';go_simp;with_reducible rfl
  rotate_left
  ·simp only[Act.put,List.setIfInBounds_toArray,List.set_cons_zero,List.set_cons_succ,i64_w,i32_w];rfl
  refine pure_ (i:=3) (N:=some 6) (v:= ?_) (a':= ?_) #[true,true,true,true,false,false,false,false,false,false,false,false,false] rfl rfl (any_of HT_.out (by kernel_rfl)) (fun _ _ _ h=>h) (Or.inl ⟨by rfl, ?_⟩) ?_ ?_
  rotate_left
  ·intro w';go_simp;with_reducible rfl
  rotate_left
  ·simp only[Act.put,List.setIfInBounds_toArray,List.set_cons_zero,List.set_cons_succ,i64_w,i32_w];rfl
  refine pure_ (i:=4) (N:=some 7) (v:=undef) (a':= ?_) #[true,true,true,true,true,false,false,false,false,false,false,false,false] rfl rfl (any_of HT_.out (by kernel_rfl)) (fun _ _ _ h=>h) (Or.inr ⟨by rfl,rfl⟩) ?_ ?_
  rotate_left
  ·simp only[Act.put,List.setIfInBounds_toArray,List.set_cons_zero,List.set_cons_succ,i64_w,i32_w];rfl
  refine pure_ (i:=5) (N:=some 8) (v:=undef) (a':= ?_) #[true,true,true,true,true,true,false,false,false,false,false,false,false] rfl rfl (any_of HT_.out (by kernel_rfl)) (fun _ _ _ h=>h) (Or.inr ⟨by rfl,rfl⟩) ?_ ?_
  rotate_left
  ·simp only[Act.put,List.setIfInBounds_toArray,List.set_cons_zero,List.set_cons_succ,i64_w,i32_w];rfl
  refine pure_ (i:=6) (N:=some 9) (v:=undef) (a':= ?_) #[true,true,true,true,true,true,true,false,false,false,false,false,false] rfl rfl (any_of HT_.out (by kernel_rfl)) (fun _ _ _ h=>h) (Or.inr ⟨by rfl,rfl⟩) ?_ ?_
  rotate_left
  ·simp only[Act.put,List.setIfInBounds_toArray,List.set_cons_zero,List.set_cons_succ,i64_w,i32_w];rfl
  refine pure_ (i:=7) (N:=some 10) (v:=undef) (a':= ?_) #[true,true,true,true,true,true,true,true,false,false,false,false,false] rfl rfl (any_of HT_.out (by kernel_rfl)) (fun _ _ _ h=>h) (Or.inr ⟨by rfl,rfl⟩) ?_ ?_
  rotate_left
  ·simp only[Act.put,List.setIfInBounds_toArray,List.set_cons_zero,List.set_cons_succ,i64_w,i32_w];rfl
  refine pure_ (i:=8) (N:=some 11) (v:=undef) (a':= ?_) #[true,true,true,true,true,true,true,true,true,false,false,false,false] rfl rfl (any_of HT_.out (by kernel_rfl)) (fun _ _ _ h=>h) (Or.inr ⟨by rfl,rfl⟩) ?_ ?_
  rotate_left
  ·simp only[Act.put,List.setIfInBounds_toArray,List.set_cons_zero,List.set_cons_succ,i64_w,i32_w];rfl
  refine pure_ (i:=9) (N:=some 12) (v:=undef) (a':= ?_) #[true,true,true,true,true,true,true,true,true,true,false,false,false] rfl rfl (any_of HT_.out (by kernel_rfl)) (fun _ _ _ h=>h) (Or.inr ⟨by rfl,rfl⟩) ?_ ?_
  rotate_left
  ·simp only[Act.put,List.setIfInBounds_toArray,List.set_cons_zero,List.set_cons_succ,i64_w,i32_w];rfl
  refine pure_ (i:=10) (N:=some 13) (v:=undef) (a':= ?_) #[true,true,true,true,true,true,true,true,true,true,true,false,false] rfl rfl (any_of HT_.out (by kernel_rfl)) (fun _ _ _ h=>h) (Or.inr ⟨by rfl,rfl⟩) ?_ ?_
  rotate_left
  ·simp only[Act.put,List.setIfInBounds_toArray,List.set_cons_zero,List.set_cons_succ,i64_w,i32_w];rfl
  refine pure_ (i:=11) (N:=some 14) (v:= ?_) (a':= ?_) #[true,true,true,true,true,true,true,true,true,true,true,true,false] rfl rfl (any_of HT_.out (by kernel_rfl)) (fun _ _ _ h=>h) (Or.inl ⟨by rfl, ?_⟩) ?_ ?_
  rotate_left
  ·intro w';go_simp;with_reducible rfl
  rotate_left
  ·simp only[Act.put,List.setIfInBounds_toArray,List.set_cons_zero,List.set_cons_succ,i64_w,i32_w];rfl
  refine pure_ (i:=12) (N:=some 2) (v:= ?_) (a':= ?_) #[true,true,true,true,true,true,true,true,true,true,true,true,true] rfl rfl (any_of HT_.out (by kernel_rfl)) (fun _ _ _ h=>h) (Or.inl ⟨by rfl, ?_⟩) ?_ ?_
  rotate_left
  ·intro w';go_simp;with_reducible rfl
  rotate_left
  ·simp only[Act.put,List.setIfInBounds_toArray,List.set_cons_zero,List.set_cons_succ,i64_w,i32_w];rfl
  refine done_ (done_of HT_.out (by kernel_rfl)) ?_;try go_wp2
  go_ret;exact⟨rfl,HB.out⟩
def spec_l1Ok.f(k:Nat)(a0:ByteArray):Option (Bool):=if a0.size≤140737488355328 then((spec_UtfOk.f k (bytesOf a0)).bind fun t104=>(some t104))else(none)
theorem spec_l1Ok.mono: ∀a0 k,LeO (spec_l1Ok.f k a0) (spec_l1Ok.f (k+1) a0):=by
 intro a0 k;unfold spec_l1Ok.f;repeat' (with_reducible first|exact spec_UtfOk.mono _ _|exact LeO.refl _|exact LeO.none _|refine LeO.ite ?_ ?_|refine LeO.bind ?_ (fun _=> ?_))
theorem spec_l1Ok.calls(k:Nat)(a0:ByteArray)(r:Bool)(w:World)(h:spec_l1Ok.f k a0=some r):
 Calls Tryz.prog 48 #[.string a0] w fun e w'=>e= .returned (.bool r)∧Below w.heap.size w w':=by
 have HB:=Ak (Below.refl w.heap.size w);have H:(if a0.size≤140737488355328 then((spec_UtfOk.f k (bytesOf a0)).bind fun t104=>(some t104))else(none))=some r:=h;clear h;by_cases c2:a0.size≤140737488355328
 ·rw[if_pos c2]at H;have c2b0:=eq_true c2;have c2b1:=decide_eq_true c2;clear c2;obtain⟨y101,hy101⟩: ∃y_:List Int,y_=(bytesOf a0):=⟨_,rfl⟩
  replace H:((spec_UtfOk.f k y101).bind fun t104=>(some t104))=some r:=by rw[hy101];exact H
  have Ny101:=Ak hy101;clear hy101;replace H:=Ob H;obtain⟨t104,A30,H⟩:=H;replace H:(some t104)=some r:=H;have A3:=Ak A30;clear A30;obtain rfl:=Oi H;go_enter Tryz.func48,Tryz.ntmps48;go_wp2_with (first|((with_reducible refine gate_dst (N:=4) rfl ?_);refine conv_V _ 5 rfl (N':=4) rfl 9 33 _ rfl a0 rfl Tryz.underlying9 Tryz.underlying33 Tryz.underlying5 (of_decide_eq_true (by assumption):a0.size≤140737488355328) (ok:=fun k_=>w.heap.size≤k_) (Nat.le_refl _) (Below.refl _ _) (Nat.le_refl _) ?_;intro v102 w4 ho5 hb hg_ hnew_;clear hg_ hnew_;(first|rw[←Ny101.out]at ho5|(simp only[Int.reduceToNat]at ho5;rw[←Ny101.out]at ho5));replace HO103:=Ak (Kd.V_lower (Kd.V_mono (ok':=fun k_=>True) ho5 (fun k_ hk_=>trivial)) (below_size (HB.out)));replace HB:=Ak (below_step (HB.out) hb);clear hb ho5;obtain⟨Ao6,co6,eo6⟩:=Kd.V_slice HO103.out;subst eo6)|(go_at_call 81;(with_reducible refine(spec_UtfOk.calls k _ _ y101 t104 _ ?side1 ?side2 A3.out).mono ?_);(case side1=>repeat(first|exact(Kd.V_reads' HO103.out).2.2|(with_reducible refine Kd.C_alloc ?_ _)|(with_reducible refine Kd.C_drewN ?_ _)|(with_reducible refine Kd.C_drew ?_)));(case side2=>exact(Kd.V_reads' HO103.out).2.1);rintro e w7 ⟨rfl,hb⟩;replace HO103:=Ak (Kd.V_below HO103.out hb);replace HB:=Ak (below_step (HB.out) hb);(try clear hb);(try clear hb2);(try clear hk);(try clear hi)));go_ret;exact⟨by first|rfl|(simp [*]<;>rfl),HB.out⟩
 ·rw[if_neg c2]at H;exact absurd H (by simp)
def spec_IsBlank.f(a0:Int):Option (Bool):=if a0=9 then(some true)else(if a0=10 then(some true)else(if a0=12 then(some true)else(some (a0==32))))
theorem spec_IsBlank.calls(a0:Int)(r:Bool)(w:World)(h:spec_IsBlank.f a0=some r):
 Calls Tryz.prog 82 #[.int .i64 a0] w fun e w'=>e= .returned (.bool r)∧Drawn0 w w':=by
 have H:(if a0=9 then(some true)else(if a0=10 then(some true)else(if a0=12 then(some true)else(some (a0==32)))))=some r:=h;clear h;by_cases c2:a0=9
 ·rw[if_pos c2]at H;have c2b0:=beq_iff_eq.mpr c2;have c2b1:=bne_eq_false_iff_eq.mpr c2;clear c2;obtain rfl:=Oi H;go_enter Tryz.func82,Tryz.ntmps82;go_wp2;go_ret;exact⟨rfl,by repeat(first|exact Drawn0.refl _|apply Drawn0.step)⟩
 ·rw[if_neg c2]at H;have c2b0:=beq_eq_false_iff_ne.mpr c2;have c2b1:=bne_iff_ne.mpr c2;by_cases c3:a0=10
  ·rw[if_pos c3]at H;have c3b0:=beq_iff_eq.mpr c3;have c3b1:=bne_eq_false_iff_eq.mpr c3;clear c3;obtain rfl:=Oi H;go_enter Tryz.func82,Tryz.ntmps82;go_wp2;go_ret;exact⟨rfl,by repeat(first|exact Drawn0.refl _|apply Drawn0.step)⟩
  ·rw[if_neg c3]at H;have c3b0:=beq_eq_false_iff_ne.mpr c3;have c3b1:=bne_iff_ne.mpr c3;by_cases c4:a0=12
   ·rw[if_pos c4]at H;have c4b0:=beq_iff_eq.mpr c4;have c4b1:=bne_eq_false_iff_eq.mpr c4;clear c4;obtain rfl:=Oi H;go_enter Tryz.func82,Tryz.ntmps82;go_wp2;go_ret;exact⟨rfl,by repeat(first|exact Drawn0.refl _|apply Drawn0.step)⟩
   ·rw[if_neg c4]at H;have c4b0:=beq_eq_false_iff_ne.mpr c4;have c4b1:=bne_iff_ne.mpr c4;obtain rfl:=Oi H;go_enter Tryz.func82,Tryz.ntmps82;go_wp2;go_ret;exact⟨rfl,by repeat(first|exact Drawn0.refl _|apply Drawn0.step)⟩
mutual
def spec_NameOk.j0:Nat→ByteArray→Bool→Option (Bool)
 |0,_,_=>none
 |k+1,x0,x22=>if x22=true then(some false)else(spec_NameOk.l0 k x0 0)
def spec_NameOk.l0:Nat→ByteArray→Int→Option (Bool)
 |0,_,_=>none
 |k+1,x0,x3=>if x3<(x0.size:Int)then(if 0≤x3 then((spec_IsBlank.f (wrap64 (bt x0 x3))).bind fun t103=>(if t103=true then(some false)else(if(bt x0 x3)=47 then(some false)else(if(bt x0 x3)=62 then(some false)else(if(bt x0 x3)=0 then(some false)else(if(bt x0 x3)≥65 then(if(bt x0 x3)≤90 then(some false)else(spec_NameOk.l0 k x0 (wrap64 (x3+1))))else(spec_NameOk.l0 k x0 (wrap64 (x3+1)))))))))else(none))else(some true)
end
def spec_NameOk.f(k:Nat)(a0:ByteArray):Option (Bool):=(spec_l1In.f (a0.size:Int) 1 60).bind fun t101=>(if t101=true then((spec_l1Ok.f k a0).bind fun t102=>(if t102=true then(if 0<(a0.size:Int)then(if(bt a0 0)<97 then(spec_NameOk.j0 k a0 true)else(spec_NameOk.j0 k a0 (decide ((bt a0 0)>122))))else(none))else(spec_NameOk.j0 k a0 true)))else(spec_NameOk.j0 k a0 true))
theorem spec_NameOk.mono_l: ∀k,(∀y0 y1,LeO (spec_NameOk.j0 k y0 y1) (spec_NameOk.j0 (k+1) y0 y1))∧(∀y0 y1,LeO (spec_NameOk.l0 k y0 y1) (spec_NameOk.l0 (k+1) y0 y1))
 |0=>⟨fun _ _ r h=>by simp [spec_NameOk.j0]at h,fun _ _ r h=>by simp [spec_NameOk.l0]at h⟩
 |k+1=>by
  obtain⟨ih0,ih1⟩:=spec_NameOk.mono_l k;refine⟨?_, ?_⟩
  ·intro y0 y1;unfold spec_NameOk.j0;repeat' (with_reducible first|exact ih0 _ _|exact ih1 _ _|exact spec_l1Ok.mono _ _|exact LeO.refl _|exact LeO.none _|refine LeO.ite ?_ ?_|refine LeO.bind ?_ (fun _=> ?_))
  ·intro y0 y1;unfold spec_NameOk.l0;repeat' (with_reducible first|exact ih0 _ _|exact ih1 _ _|exact spec_l1Ok.mono _ _|exact LeO.refl _|exact LeO.none _|refine LeO.ite ?_ ?_|refine LeO.bind ?_ (fun _=> ?_))
theorem spec_NameOk.mono: ∀a0 k,LeO (spec_NameOk.f k a0) (spec_NameOk.f (k+1) a0):=by
 intro a0 k;obtain⟨ih0,ih1⟩:=spec_NameOk.mono_l k;unfold spec_NameOk.f;repeat' (with_reducible first|exact ih0 _ _|exact ih1 _ _|exact spec_l1Ok.mono _ _|exact LeO.refl _|exact LeO.none _|refine LeO.ite ?_ ?_|refine LeO.bind ?_ (fun _=> ?_))
theorem spec_NameOk.calls(k:Nat)(a0:ByteArray)(r:Bool)(w:World)(h:spec_NameOk.f k a0=some r):
 Calls Tryz.prog 49 #[.string a0] w fun e w'=>e= .returned (.bool r)∧Below w.heap.size w w':=by
 have HB:=Ak (Below.refl w.heap.size w);have H:((spec_l1In.f (a0.size:Int) 1 60).bind fun t101=>(if t101=true then((spec_l1Ok.f k a0).bind fun t102=>(if t102=true then(if 0<(a0.size:Int)then(if(bt a0 0)<97 then(spec_NameOk.j0 k a0 true)else(spec_NameOk.j0 k a0 (decide ((bt a0 0)>122))))else(none))else(spec_NameOk.j0 k a0 true)))else(spec_NameOk.j0 k a0 true)))=some r:=h;clear h;have HC2:=Ak H;clear H;go_enter Tryz.func49,Tryz.ntmps49;go_upto_region 1 with(fail);go_cut [22] (fun v22 wc=> ∃(kq:Nat) (x22_1:Bool),v22= .bool x22_1∧Aside0 (spec_NameOk.j0 kq a0 x22_1=some r)∧Aside0 (kq≤k)∧Aside0 (Below w.heap.size w wc));case first=>
  have H:=HC2.out;clear HC2;replace H:=Ob H;obtain⟨t101,A30,H⟩:=H;replace H:(if t101=true then((spec_l1Ok.f k a0).bind fun t102=>(if t102=true then(if 0<(a0.size:Int)then(if(bt a0 0)<97 then(spec_NameOk.j0 k a0 true)else(spec_NameOk.j0 k a0 (decide ((bt a0 0)>122))))else(none))else(spec_NameOk.j0 k a0 true)))else(spec_NameOk.j0 k a0 true))=some r:=H;have A3:=Ak A30;clear A30;by_cases c4:t101=true
  ·subst c4;rw[if_pos rfl]at H;replace H:=Ob H;obtain⟨t102,A50,H⟩:=H;replace H:(if t102=true then(if 0<(a0.size:Int)then(if(bt a0 0)<97 then(spec_NameOk.j0 k a0 true)else(spec_NameOk.j0 k a0 (decide ((bt a0 0)>122))))else(none))else(spec_NameOk.j0 k a0 true))=some r:=H;have A5:=Ak A50;clear A50;by_cases c6:t102=true
   ·subst c6;rw[if_pos rfl]at H;by_cases c7:0<(a0.size:Int)
    ·rw[if_pos c7]at H;have c7b0:=decide_eq_true c7;have c7b1:decide (0<a0.size)=true:=decide_eq_true (by omega);clear c7;(first|rw[c7b0]|(simp only[i64_w,i32_w];rw[c7b0])|skip);by_cases c9:(bt a0 0)<97
     ·rw[if_pos c9]at H;have c9b0:=decide_eq_true c9;clear c9;have H':=Ak H;clear H;go_wp2_with (first|(go_at_call 27;(with_reducible refine(spec_l1In.calls (a0.size:Int) 1 60 true _ A3.out).mono ?_);rintro e w' ⟨rfl,⟨nd,rfl⟩⟩)|(go_at_call 48;(with_reducible refine(spec_l1Ok.calls k a0 true _ A5.out).mono ?_);rintro e w10 ⟨rfl,hb⟩;replace HB:=Ak (below_step (by repeat(first|exact HB.out|apply below_alloc|apply pw_below_drewN|apply below_drew1)) hb);(try clear hb);have p8:0≤(0:Int):=(by omega);have q8:0<a0.size:=(by have:(0:Int)<(a0.size:Int):=of_decide_eq_true (by assumption);omega);have hx8: ∀h:0<a0.size,((a0[0]'h).toNat:Int)=bt a0 0:=bt_at a0 0;clear p8;have qi8:(0<(a0.size:Int))=True:=eq_true (of_decide_eq_true (by assumption));replace q8:=eq_true q8));go_meet;case rel=>exact⟨_,(true),rfl,H',⟨by first|omega|exact Nat.le_refl _⟩,⟨by repeat(first|exact HB.out|apply below_alloc|apply pw_below_drewN|apply below_drew1)⟩⟩
     ·rw[if_neg c9]at H;have c9b0:=decide_eq_false c9;clear c9;have H':=Ak H;clear H;go_wp2_with (first|(go_at_call 27;(with_reducible refine(spec_l1In.calls (a0.size:Int) 1 60 true _ A3.out).mono ?_);rintro e w' ⟨rfl,⟨nd,rfl⟩⟩)|(go_at_call 48;(with_reducible refine(spec_l1Ok.calls k a0 true _ A5.out).mono ?_);rintro e w12 ⟨rfl,hb⟩;replace HB:=Ak (below_step (by repeat(first|exact HB.out|apply below_alloc|apply pw_below_drewN|apply below_drew1)) hb);(try clear hb);have p8:0≤(0:Int):=(by omega);have q8:0<a0.size:=(by have:(0:Int)<(a0.size:Int):=of_decide_eq_true (by assumption);omega);have hx8: ∀h:0<a0.size,((a0[0]'h).toNat:Int)=bt a0 0:=bt_at a0 0;clear p8;have qi8:(0<(a0.size:Int))=True:=eq_true (of_decide_eq_true (by assumption));replace q8:=eq_true q8;have p11:0≤(0:Int):=(by omega);have q11:0<a0.size:=(by have:(0:Int)<(a0.size:Int):=of_decide_eq_true (by assumption);omega);have hx11: ∀h:0<a0.size,((a0[0]'h).toNat:Int)=bt a0 0:=bt_at a0 0;clear p11;have qi11:(0<(a0.size:Int))=True:=eq_true (of_decide_eq_true (by assumption));replace q11:=eq_true q11));go_meet;case rel=>exact⟨_,(decide ((bt a0 0)>122)),rfl,H',⟨by first|omega|exact Nat.le_refl _⟩,⟨by repeat(first|exact HB.out|apply below_alloc|apply pw_below_drewN|apply below_drew1)⟩⟩
    ·rw[if_neg c7]at H;exact absurd H (by simp)
   ·replace c6:=Bool.eq_false_iff.mpr c6;subst c6;rw[if_neg (show ¬(false=true)by decide)]at H;have H':=Ak H;clear H;go_wp2_with (first|(go_at_call 27;(with_reducible refine(spec_l1In.calls (a0.size:Int) 1 60 true _ A3.out).mono ?_);rintro e w' ⟨rfl,⟨nd,rfl⟩⟩)|(go_at_call 48;(with_reducible refine(spec_l1Ok.calls k a0 false _ A5.out).mono ?_);rintro e w13 ⟨rfl,hb⟩;replace HB:=Ak (below_step (by repeat(first|exact HB.out|apply below_alloc|apply pw_below_drewN|apply below_drew1)) hb);(try clear hb)));go_meet;case rel=>exact⟨_,(true),rfl,H',⟨by first|omega|exact Nat.le_refl _⟩,⟨by repeat(first|exact HB.out|apply below_alloc|apply pw_below_drewN|apply below_drew1)⟩⟩
  ·replace c4:=Bool.eq_false_iff.mpr c4;subst c4;rw[if_neg (show ¬(false=true)by decide)]at H;have H':=Ak H;clear H;go_wp2_with (first|(go_at_call 27;(with_reducible refine(spec_l1In.calls (a0.size:Int) 1 60 false _ A3.out).mono ?_);rintro e w' ⟨rfl,⟨nd,rfl⟩⟩));go_meet;case rel=>exact⟨_,(true),rfl,H',⟨by first|omega|exact Nat.le_refl _⟩,⟨by repeat(first|exact HB.out|apply below_alloc|apply pw_below_drewN|apply below_drew1)⟩⟩
 case rest=>
  clear HC2;obtain⟨kq,x22_1,rfl,HA,HJ1,HB⟩:=hcut;cases kq with
  |zero=>exact absurd HA.out (by simp [spec_NameOk.j0])
  |succ kj1=>
   have H:=HA.out;clear HA;simp only[spec_NameOk.j0]at H;by_cases c14:x22_1=true
   ·subst c14;rw[if_pos rfl]at H;obtain rfl:=Oi H;go_wp2;go_ret;exact⟨rfl,by repeat(first|exact HB.out|apply below_alloc|apply pw_below_drewN|apply below_drew1)⟩
   ·replace c14:=Bool.eq_false_iff.mpr c14;subst c14;rw[if_neg (show ¬(false=true)by decide)]at H;have H':=Ak H;clear H;go_wp2;go_loopg [3] kj1 (fun kq v3 w'=> ∃(x3_2:Int),v3= .int .i64 x3_2∧Aside0 (spec_NameOk.l0 kq a0 x3_2=some r)∧Aside0 (kq≤kj1)∧Aside0 (Below w.heap.size w w'));case atStart=>exact⟨(0),rfl,H',⟨Nat.le_refl _⟩,⟨by repeat(first|exact HB.out|apply below_alloc|apply pw_below_drewN|apply below_drew1)⟩⟩
    case round=>
     clear H';obtain⟨x3_2,rfl,HA,HK2,HB⟩:=hrel;cases gk with
     |zero=>exact absurd HA.out (by simp [spec_NameOk.l0])
     |succ k2=>
      have H:=HA.out;clear HA;simp only[spec_NameOk.l0]at H;by_cases c15:x3_2<(a0.size:Int)
      ·rw[if_pos c15]at H;have c15b0:=decide_eq_true c15;clear c15;by_cases c16:0≤x3_2
       ·rw[if_pos c16]at H;have c16b0:=decide_eq_true c16;clear c16;replace H:=Ob H;obtain⟨t103,A180,H⟩:=H;replace H:(if t103=true then(some false)else(if(bt a0 x3_2)=47 then(some false)else(if(bt a0 x3_2)=62 then(some false)else(if(bt a0 x3_2)=0 then(some false)else(if(bt a0 x3_2)≥65 then(if(bt a0 x3_2)≤90 then(some false)else(spec_NameOk.l0 k2 a0 (wrap64 (x3_2+1))))else(spec_NameOk.l0 k2 a0 (wrap64 (x3_2+1))))))))=some r:=H;have A18:=Ak A180;clear A180;by_cases c19:t103=true
        ·subst c19;rw[if_pos rfl]at H;obtain rfl:=Oi H;have p17:0≤(x3_2:Int):=of_decide_eq_true (by assumption);have q17:x3_2<(a0.size:Int):=of_decide_eq_true (by assumption);have hx17:=bt_at a0 x3_2;replace p17:=eq_true p17;replace q17:=eq_true q17;go_wp2_with (first|(go_at_call 82;(with_reducible refine(spec_IsBlank.calls (wrap64 (bt a0 x3_2)) true _ A18.out).mono ?_);rintro e w' ⟨rfl,⟨nd,rfl⟩⟩));go_ret;exact⟨rfl,by repeat(first|exact HB.out|apply below_alloc|apply pw_below_drewN|apply below_drew1)⟩
        ·replace c19:=Bool.eq_false_iff.mpr c19;subst c19;rw[if_neg (show ¬(false=true)by decide)]at H;by_cases c21:(bt a0 x3_2)=47
         ·rw[if_pos c21]at H;have c21b0:=beq_iff_eq.mpr c21;have c21b1:=bne_eq_false_iff_eq.mpr c21;clear c21;obtain rfl:=Oi H;have p17:0≤(x3_2:Int):=of_decide_eq_true (by assumption);have q17:x3_2<(a0.size:Int):=of_decide_eq_true (by assumption);have hx17:=bt_at a0 x3_2;replace p17:=eq_true p17;replace q17:=eq_true q17;go_wp2_with (first|(go_at_call 82;(with_reducible refine(spec_IsBlank.calls (wrap64 (bt a0 x3_2)) false _ A18.out).mono ?_);rintro e w' ⟨rfl,⟨nd,rfl⟩⟩;have p20:0≤(x3_2:Int):=of_decide_eq_true (by assumption);have q20:x3_2<(a0.size:Int):=of_decide_eq_true (by assumption);have hx20:=bt_at a0 x3_2;replace p20:=eq_true p20;replace q20:=eq_true q20));go_ret;exact⟨rfl,by repeat(first|exact HB.out|apply below_alloc|apply pw_below_drewN|apply below_drew1)⟩
         ·rw[if_neg c21]at H;have c21b0:=beq_eq_false_iff_ne.mpr c21;have c21b1:=bne_iff_ne.mpr c21;by_cases c23:(bt a0 x3_2)=62
          ·rw[if_pos c23]at H;have c23b0:=beq_iff_eq.mpr c23;have c23b1:=bne_eq_false_iff_eq.mpr c23;clear c23;obtain rfl:=Oi H;have p17:0≤(x3_2:Int):=of_decide_eq_true (by assumption);have q17:x3_2<(a0.size:Int):=of_decide_eq_true (by assumption);have hx17:=bt_at a0 x3_2;replace p17:=eq_true p17;replace q17:=eq_true q17;go_wp2_with (first|(go_at_call 82;(with_reducible refine(spec_IsBlank.calls (wrap64 (bt a0 x3_2)) false _ A18.out).mono ?_);rintro e w' ⟨rfl,⟨nd,rfl⟩⟩;have p20:0≤(x3_2:Int):=of_decide_eq_true (by assumption);have q20:x3_2<(a0.size:Int):=of_decide_eq_true (by assumption);have hx20:=bt_at a0 x3_2;replace p20:=eq_true p20;replace q20:=eq_true q20;have p22:0≤(x3_2:Int):=of_decide_eq_true (by assumption);have q22:x3_2<(a0.size:Int):=of_decide_eq_true (by assumption);have hx22:=bt_at a0 x3_2;replace p22:=eq_true p22;replace q22:=eq_true q22));go_ret;exact⟨rfl,by repeat(first|exact HB.out|apply below_alloc|apply pw_below_drewN|apply below_drew1)⟩
          ·rw[if_neg c23]at H;have c23b0:=beq_eq_false_iff_ne.mpr c23;have c23b1:=bne_iff_ne.mpr c23;by_cases c25:(bt a0 x3_2)=0
           ·rw[if_pos c25]at H;have c25b0:=beq_iff_eq.mpr c25;have c25b1:=bne_eq_false_iff_eq.mpr c25;clear c25;obtain rfl:=Oi H;have p17:0≤(x3_2:Int):=of_decide_eq_true (by assumption);have q17:x3_2<(a0.size:Int):=of_decide_eq_true (by assumption);have hx17:=bt_at a0 x3_2;replace p17:=eq_true p17;replace q17:=eq_true q17;go_wp2_with (first|(go_at_call 82;(with_reducible refine(spec_IsBlank.calls (wrap64 (bt a0 x3_2)) false _ A18.out).mono ?_);rintro e w' ⟨rfl,⟨nd,rfl⟩⟩;have p20:0≤(x3_2:Int):=of_decide_eq_true (by assumption);have q20:x3_2<(a0.size:Int):=of_decide_eq_true (by assumption);have hx20:=bt_at a0 x3_2;replace p20:=eq_true p20;replace q20:=eq_true q20;have p22:0≤(x3_2:Int):=of_decide_eq_true (by assumption);have q22:x3_2<(a0.size:Int):=of_decide_eq_true (by assumption);have hx22:=bt_at a0 x3_2;replace p22:=eq_true p22;replace q22:=eq_true q22;have p24:0≤(x3_2:Int):=of_decide_eq_true (by assumption);have q24:x3_2<(a0.size:Int):=of_decide_eq_true (by assumption);have hx24:=bt_at a0 x3_2;replace p24:=eq_true p24;replace q24:=eq_true q24));go_ret;exact⟨rfl,by repeat(first|exact HB.out|apply below_alloc|apply pw_below_drewN|apply below_drew1)⟩
           ·rw[if_neg c25]at H;have c25b0:=beq_eq_false_iff_ne.mpr c25;have c25b1:=bne_iff_ne.mpr c25;by_cases c27:(bt a0 x3_2)≥65
            ·rw[if_pos c27]at H;have c27b0:decide (65≤(bt a0 x3_2))=true:=decide_eq_true c27;clear c27;by_cases c29:(bt a0 x3_2)≤90
             ·rw[if_pos c29]at H;have c29b0:=decide_eq_true c29;clear c29;obtain rfl:=Oi H;have p17:0≤(x3_2:Int):=of_decide_eq_true (by assumption);have q17:x3_2<(a0.size:Int):=of_decide_eq_true (by assumption);have hx17:=bt_at a0 x3_2;replace p17:=eq_true p17;replace q17:=eq_true q17;go_wp2_with (first|(go_at_call 82;(with_reducible refine(spec_IsBlank.calls (wrap64 (bt a0 x3_2)) false _ A18.out).mono ?_);rintro e w' ⟨rfl,⟨nd,rfl⟩⟩;have p20:0≤(x3_2:Int):=of_decide_eq_true (by assumption);have q20:x3_2<(a0.size:Int):=of_decide_eq_true (by assumption);have hx20:=bt_at a0 x3_2;replace p20:=eq_true p20;replace q20:=eq_true q20;have p22:0≤(x3_2:Int):=of_decide_eq_true (by assumption);have q22:x3_2<(a0.size:Int):=of_decide_eq_true (by assumption);have hx22:=bt_at a0 x3_2;replace p22:=eq_true p22;replace q22:=eq_true q22;have p24:0≤(x3_2:Int):=of_decide_eq_true (by assumption);have q24:x3_2<(a0.size:Int):=of_decide_eq_true (by assumption);have hx24:=bt_at a0 x3_2;replace p24:=eq_true p24;replace q24:=eq_true q24;have p26:0≤(x3_2:Int):=of_decide_eq_true (by assumption);have q26:x3_2<(a0.size:Int):=of_decide_eq_true (by assumption);have hx26:=bt_at a0 x3_2;replace p26:=eq_true p26;replace q26:=eq_true q26;have p28:0≤(x3_2:Int):=of_decide_eq_true (by assumption);have q28:x3_2<(a0.size:Int):=of_decide_eq_true (by assumption);have hx28:=bt_at a0 x3_2;replace p28:=eq_true p28;replace q28:=eq_true q28));go_ret;exact⟨rfl,by repeat(first|exact HB.out|apply below_alloc|apply pw_below_drewN|apply below_drew1)⟩
             ·rw[if_neg c29]at H;have c29b0:=decide_eq_false c29;clear c29;have H':=Ak H;clear H;have p17:0≤(x3_2:Int):=of_decide_eq_true (by assumption);have q17:x3_2<(a0.size:Int):=of_decide_eq_true (by assumption);have hx17:=bt_at a0 x3_2;replace p17:=eq_true p17;replace q17:=eq_true q17;go_wp2_with (first|(go_at_call 82;(with_reducible refine(spec_IsBlank.calls (wrap64 (bt a0 x3_2)) false _ A18.out).mono ?_);rintro e w' ⟨rfl,⟨nd,rfl⟩⟩;have p20:0≤(x3_2:Int):=of_decide_eq_true (by assumption);have q20:x3_2<(a0.size:Int):=of_decide_eq_true (by assumption);have hx20:=bt_at a0 x3_2;replace p20:=eq_true p20;replace q20:=eq_true q20;have p22:0≤(x3_2:Int):=of_decide_eq_true (by assumption);have q22:x3_2<(a0.size:Int):=of_decide_eq_true (by assumption);have hx22:=bt_at a0 x3_2;replace p22:=eq_true p22;replace q22:=eq_true q22;have p24:0≤(x3_2:Int):=of_decide_eq_true (by assumption);have q24:x3_2<(a0.size:Int):=of_decide_eq_true (by assumption);have hx24:=bt_at a0 x3_2;replace p24:=eq_true p24;replace q24:=eq_true q24;have p26:0≤(x3_2:Int):=of_decide_eq_true (by assumption);have q26:x3_2<(a0.size:Int):=of_decide_eq_true (by assumption);have hx26:=bt_at a0 x3_2;replace p26:=eq_true p26;replace q26:=eq_true q26;have p28:0≤(x3_2:Int):=of_decide_eq_true (by assumption);have q28:x3_2<(a0.size:Int):=of_decide_eq_true (by assumption);have hx28:=bt_at a0 x3_2;replace p28:=eq_true p28;replace q28:=eq_true q28));go_roundg k2;case measure=>have:=HJ1.out;have:=HK2.out;omega
              case rel=>exact⟨(wrap64 (x3_2+1)),rfl,H',⟨by have:=HJ1.out;have:=HK2.out;omega⟩,⟨by repeat(first|exact HB.out|apply below_alloc|apply pw_below_drewN|apply below_drew1)⟩⟩
            ·rw[if_neg c27]at H;have c27b0:decide (65≤(bt a0 x3_2))=false:=decide_eq_false c27;clear c27;have H':=Ak H;clear H;have p17:0≤(x3_2:Int):=of_decide_eq_true (by assumption);have q17:x3_2<(a0.size:Int):=of_decide_eq_true (by assumption);have hx17:=bt_at a0 x3_2;replace p17:=eq_true p17;replace q17:=eq_true q17;go_wp2_with (first|(go_at_call 82;(with_reducible refine(spec_IsBlank.calls (wrap64 (bt a0 x3_2)) false _ A18.out).mono ?_);rintro e w' ⟨rfl,⟨nd,rfl⟩⟩;have p20:0≤(x3_2:Int):=of_decide_eq_true (by assumption);have q20:x3_2<(a0.size:Int):=of_decide_eq_true (by assumption);have hx20:=bt_at a0 x3_2;replace p20:=eq_true p20;replace q20:=eq_true q20;have p22:0≤(x3_2:Int):=of_decide_eq_true (by assumption);have q22:x3_2<(a0.size:Int):=of_decide_eq_true (by assumption);have hx22:=bt_at a0 x3_2;replace p22:=eq_true p22;replace q22:=eq_true q22;have p24:0≤(x3_2:Int):=of_decide_eq_true (by assumption);have q24:x3_2<(a0.size:Int):=of_decide_eq_true (by assumption);have hx24:=bt_at a0 x3_2;replace p24:=eq_true p24;replace q24:=eq_true q24;have p26:0≤(x3_2:Int):=of_decide_eq_true (by assumption);have q26:x3_2<(a0.size:Int):=of_decide_eq_true (by assumption);have hx26:=bt_at a0 x3_2;replace p26:=eq_true p26;replace q26:=eq_true q26));go_roundg k2;case measure=>have:=HJ1.out;have:=HK2.out;omega
             case rel=>exact⟨(wrap64 (x3_2+1)),rfl,H',⟨by have:=HJ1.out;have:=HK2.out;omega⟩,⟨by repeat(first|exact HB.out|apply below_alloc|apply pw_below_drewN|apply below_drew1)⟩⟩
       ·rw[if_neg c16]at H;exact absurd H (by simp)
      ·rw[if_neg c15]at H;have c15b0:=decide_eq_false c15;clear c15;obtain rfl:=Oi H;go_wp2;go_ret;exact⟨rfl,by repeat(first|exact HB.out|apply below_alloc|apply pw_below_drewN|apply below_drew1)⟩
def spec_l4Attr.f(k:Nat)(a0_0:ByteArray)(a0_1:ByteArray):Option (Bool):=(spec_l1In.f (a0_0.size:Int) 1 60).bind fun t102=>(if t102=true then(if(a0_1.size:Int)≤3000 then((spec_l1Ok.f k a0_0).bind fun t103=>(if t103=true then((spec_l1Ok.f k a0_1).bind fun t104=>(some t104))else(some false)))else(some false))else(some false))
theorem spec_l4Attr.mono: ∀a0 a1 k,LeO (spec_l4Attr.f k a0 a1) (spec_l4Attr.f (k+1) a0 a1):=by
 intro a0 a1 k;unfold spec_l4Attr.f;repeat' (with_reducible first|exact spec_l1Ok.mono _ _|exact LeO.refl _|exact LeO.none _|refine LeO.ite ?_ ?_|refine LeO.bind ?_ (fun _=> ?_))
theorem spec_l4Attr.calls(k:Nat)(a0_0:ByteArray)(a0_1:ByteArray)(r:Bool)(w:World)(h:spec_l4Attr.f k a0_0 a0_1=some r):
 Calls Tryz.prog 83 #[.agg #[.string a0_0, .string a0_1]] w fun e w'=>e= .returned (.bool r)∧Below w.heap.size w w':=by
 have hu72:=Tryz.underlying72;have HB:=Ak (Below.refl w.heap.size w);have H:((spec_l1In.f (a0_0.size:Int) 1 60).bind fun t102=>(if t102=true then(if(a0_1.size:Int)≤3000 then((spec_l1Ok.f k a0_0).bind fun t103=>(if t103=true then((spec_l1Ok.f k a0_1).bind fun t104=>(some t104))else(some false)))else(some false))else(some false)))=some r:=h;clear h;replace H:=Ob H;obtain⟨t102,A20,H⟩:=H;replace H:(if t102=true then(if(a0_1.size:Int)≤3000 then((spec_l1Ok.f k a0_0).bind fun t103=>(if t103=true then((spec_l1Ok.f k a0_1).bind fun t104=>(some t104))else(some false)))else(some false))else(some false))=some r:=H;have A2:=Ak A20;clear A20;by_cases c3:t102=true
 ·subst c3;rw[if_pos rfl]at H;by_cases c4:(a0_1.size:Int)≤3000
  ·rw[if_pos c4]at H;have c4b0:=decide_eq_true c4;have c4b1:decide (a0_1.size≤3000)=true:=decide_eq_true (by omega);clear c4;replace H:=Ob H;obtain⟨t103,A50,H⟩:=H;replace H:(if t103=true then((spec_l1Ok.f k a0_1).bind fun t104=>(some t104))else(some false))=some r:=H;have A5:=Ak A50;clear A50;by_cases c6:t103=true
   ·subst c6;rw[if_pos rfl]at H;replace H:=Ob H;obtain⟨t104,A70,H⟩:=H;replace H:(some t104)=some r:=H;have A7:=Ak A70;clear A70;obtain rfl:=Oi H;go_enter Tryz.func83,Tryz.ntmps83;go_wp2_with (first|((with_reducible refine gate_dst (N:=1) rfl ?_);(try(refine gate_guard (by rfl) ?_;dsimp only));refine box_event ?hg (N:=1) ?hd (cs:= #[.string a0_0, .string a0_1]) (t:=72) ?hr ?_;(case hd=>rfl);(case hg=>rfl);(case hr=>go_simp);intro gb101 hg w8 hbox hb;have n0_:=Ak (below_step (HB.out) hb);have n1_:=Ak (hbox);have n2_:=Ak ((by rw[hg];exact(below_size (HB.out)):w.heap.size≤gb101));have n3_:=n2_;clear HB;have HB:=n0_;have BK101:=n1_;have GW101:=n2_;have GE101:=n3_;clear n0_ n1_ n2_ n3_;clear hb hbox hg;have hcz9_0:=blk_cell BK101.out 0;have hcz9_1:=blk_cell BK101.out 1;have hfz9_0:=blk_frozen BK101.out 0;have hfz9_1:=blk_frozen BK101.out 1)|(go_at_call 27;(with_reducible refine(spec_l1In.calls (a0_0.size:Int) 1 60 true _ A2.out).mono ?_);rintro e w' ⟨rfl,⟨nd,rfl⟩⟩)|(go_at_call 48;(with_reducible refine(spec_l1Ok.calls k a0_0 true _ A5.out).mono ?_);rintro e w10 ⟨rfl,hb⟩;replace BK101:=Ak (blk_below (g:=gb101) (o:= .cells #[.string a0_0, .string a0_1] 72 (0,0)) (by(with_reducible repeat(first|refine blk_drewN ?_ _|refine blk_drew ?_|refine blk_alloc ?_ _));exact BK101.out) hb);replace HB:=Ak (below_step (by repeat(first|exact HB.out|apply below_alloc|apply pw_below_drewN|apply below_drew1|refine below_set ?_ GE101.out)) hb);(try clear hb);have hcz11_0:=blk_cell BK101.out 0;have hcz11_1:=blk_cell BK101.out 1;have hfz11_0:=blk_frozen BK101.out 0;have hfz11_1:=blk_frozen BK101.out 1)|(go_at_call 48;(with_reducible refine(spec_l1Ok.calls k a0_1 t104 _ A7.out).mono ?_);rintro e w12 ⟨rfl,hb⟩;replace BK101:=Ak (blk_below (g:=gb101) (o:= .cells #[.string a0_0, .string a0_1] 72 (0,0)) (by(with_reducible repeat(first|refine blk_drewN ?_ _|refine blk_drew ?_|refine blk_alloc ?_ _));exact BK101.out) hb);replace HB:=Ak (below_step (by repeat(first|exact HB.out|apply below_alloc|apply pw_below_drewN|apply below_drew1|refine below_set ?_ GE101.out)) hb);(try clear hb)));go_ret;exact⟨rfl,by repeat(first|exact HB.out|apply below_alloc|apply pw_below_drewN|apply below_drew1|refine below_set ?_ GE101.out)⟩
   ·replace c6:=Bool.eq_false_iff.mpr c6;subst c6;rw[if_neg (show ¬(false=true)by decide)]at H;obtain rfl:=Oi H;go_enter Tryz.func83,Tryz.ntmps83;go_wp2_with (first|((with_reducible refine gate_dst (N:=1) rfl ?_);(try(refine gate_guard (by rfl) ?_;dsimp only));refine box_event ?hg (N:=1) ?hd (cs:= #[.string a0_0, .string a0_1]) (t:=72) ?hr ?_;(case hd=>rfl);(case hg=>rfl);(case hr=>go_simp);intro gb101 hg w13 hbox hb;have n0_:=Ak (below_step (HB.out) hb);have n1_:=Ak (hbox);have n2_:=Ak ((by rw[hg];exact(below_size (HB.out)):w.heap.size≤gb101));have n3_:=n2_;clear HB;have HB:=n0_;have BK101:=n1_;have GW101:=n2_;have GE101:=n3_;clear n0_ n1_ n2_ n3_;clear hb hbox hg;have hcz14_0:=blk_cell BK101.out 0;have hcz14_1:=blk_cell BK101.out 1;have hfz14_0:=blk_frozen BK101.out 0;have hfz14_1:=blk_frozen BK101.out 1)|(go_at_call 27;(with_reducible refine(spec_l1In.calls (a0_0.size:Int) 1 60 true _ A2.out).mono ?_);rintro e w' ⟨rfl,⟨nd,rfl⟩⟩)|(go_at_call 48;(with_reducible refine(spec_l1Ok.calls k a0_0 false _ A5.out).mono ?_);rintro e w15 ⟨rfl,hb⟩;replace BK101:=Ak (blk_below (g:=gb101) (o:= .cells #[.string a0_0, .string a0_1] 72 (0,0)) (by(with_reducible repeat(first|refine blk_drewN ?_ _|refine blk_drew ?_|refine blk_alloc ?_ _));exact BK101.out) hb);replace HB:=Ak (below_step (by repeat(first|exact HB.out|apply below_alloc|apply pw_below_drewN|apply below_drew1|refine below_set ?_ GE101.out)) hb);(try clear hb)));go_ret;exact⟨rfl,by repeat(first|exact HB.out|apply below_alloc|apply pw_below_drewN|apply below_drew1|refine below_set ?_ GE101.out)⟩
  ·rw[if_neg c4]at H;have c4b0:=decide_eq_false c4;have c4b1:decide (a0_1.size≤3000)=false:=decide_eq_false (by omega);clear c4;obtain rfl:=Oi H;go_enter Tryz.func83,Tryz.ntmps83;go_wp2_with (first|((with_reducible refine gate_dst (N:=1) rfl ?_);(try(refine gate_guard (by rfl) ?_;dsimp only));refine box_event ?hg (N:=1) ?hd (cs:= #[.string a0_0, .string a0_1]) (t:=72) ?hr ?_;(case hd=>rfl);(case hg=>rfl);(case hr=>go_simp);intro gb101 hg w16 hbox hb;have n0_:=Ak (below_step (HB.out) hb);have n1_:=Ak (hbox);have n2_:=Ak ((by rw[hg];exact(below_size (HB.out)):w.heap.size≤gb101));have n3_:=n2_;clear HB;have HB:=n0_;have BK101:=n1_;have GW101:=n2_;have GE101:=n3_;clear n0_ n1_ n2_ n3_;clear hb hbox hg;have hcz17_0:=blk_cell BK101.out 0;have hcz17_1:=blk_cell BK101.out 1;have hfz17_0:=blk_frozen BK101.out 0;have hfz17_1:=blk_frozen BK101.out 1)|(go_at_call 27;(with_reducible refine(spec_l1In.calls (a0_0.size:Int) 1 60 true _ A2.out).mono ?_);rintro e w' ⟨rfl,⟨nd,rfl⟩⟩));go_ret;exact⟨rfl,by repeat(first|exact HB.out|apply below_alloc|apply pw_below_drewN|apply below_drew1|refine below_set ?_ GE101.out)⟩
 ·replace c3:=Bool.eq_false_iff.mpr c3;subst c3;rw[if_neg (show ¬(false=true)by decide)]at H;obtain rfl:=Oi H;go_enter Tryz.func83,Tryz.ntmps83;go_wp2_with (first|((with_reducible refine gate_dst (N:=1) rfl ?_);(try(refine gate_guard (by rfl) ?_;dsimp only));refine box_event ?hg (N:=1) ?hd (cs:= #[.string a0_0, .string a0_1]) (t:=72) ?hr ?_;(case hd=>rfl);(case hg=>rfl);(case hr=>go_simp);intro gb101 hg w18 hbox hb;have n0_:=Ak (below_step (HB.out) hb);have n1_:=Ak (hbox);have n2_:=Ak ((by rw[hg];exact(below_size (HB.out)):w.heap.size≤gb101));have n3_:=n2_;clear HB;have HB:=n0_;have BK101:=n1_;have GW101:=n2_;have GE101:=n3_;clear n0_ n1_ n2_ n3_;clear hb hbox hg;have hcz19_0:=blk_cell BK101.out 0;have hcz19_1:=blk_cell BK101.out 1;have hfz19_0:=blk_frozen BK101.out 0;have hfz19_1:=blk_frozen BK101.out 1)|(go_at_call 27;(with_reducible refine(spec_l1In.calls (a0_0.size:Int) 1 60 false _ A2.out).mono ?_);rintro e w' ⟨rfl,⟨nd,rfl⟩⟩));go_ret;exact⟨rfl,by repeat(first|exact HB.out|apply below_alloc|apply pw_below_drewN|apply below_drew1|refine below_set ?_ GE101.out)⟩
mutual
def spec_AttrsOk.l0:Nat→List (S72)→Int→Option (Bool)
 |0,_,_=>none
 |k+1,x0,x3=>if x3<(x0.length:Int)then(if 0≤x3 then((spec_l4Attr.f k ((rd_T72 x0 x3).f0) ((rd_T72 x0 x3).f1)).bind fun t102=>(if t102=true then(spec_AttrsOk.l1 k x0 x3 0)else(some false)))else(none))else(some true)
def spec_AttrsOk.l1:Nat→List (S72)→Int→Int→Option (Bool)
 |0,_,_,_=>none
 |k+1,x0,x3,x4=>if x4<x3 then(if 0≤x4 then(if x4<(x0.length:Int)then(if 0≤x3 then(if x3<(x0.length:Int)then(if((rd_T72 x0 x4).f0).toList=((rd_T72 x0 x3).f0).toList then(some false)else(spec_AttrsOk.l1 k x0 x3 (wrap64 (x4+1))))else(none))else(none))else(none))else(none))else(spec_AttrsOk.l0 k x0 (wrap64 (x3+1)))
end
def spec_AttrsOk.f(k:Nat)(l0:List (S72)):Option (Bool):=if(l0.length:Int)>20 then(some false)else(spec_AttrsOk.l0 k l0 0)
theorem spec_AttrsOk.mono_l: ∀k,(∀y0 y1,LeO (spec_AttrsOk.l0 k y0 y1) (spec_AttrsOk.l0 (k+1) y0 y1))∧(∀y0 y1 y2,LeO (spec_AttrsOk.l1 k y0 y1 y2) (spec_AttrsOk.l1 (k+1) y0 y1 y2))
 |0=>⟨fun _ _ r h=>by simp [spec_AttrsOk.l0]at h,fun _ _ _ r h=>by simp [spec_AttrsOk.l1]at h⟩
 |k+1=>by
  obtain⟨ih0,ih1⟩:=spec_AttrsOk.mono_l k;refine⟨?_, ?_⟩
  ·intro y0 y1;unfold spec_AttrsOk.l0;repeat' (with_reducible first|exact ih0 _ _|exact ih1 _ _ _|exact spec_l4Attr.mono _ _ _|exact LeO.refl _|exact LeO.none _|refine LeO.ite ?_ ?_|refine LeO.bind ?_ (fun _=> ?_))
  ·intro y0 y1 y2;unfold spec_AttrsOk.l1;repeat' (with_reducible first|exact ih0 _ _|exact ih1 _ _ _|exact spec_l4Attr.mono _ _ _|exact LeO.refl _|exact LeO.none _|refine LeO.ite ?_ ?_|refine LeO.bind ?_ (fun _=> ?_))
theorem spec_AttrsOk.mono: ∀a0 k,LeO (spec_AttrsOk.f k a0) (spec_AttrsOk.f (k+1) a0):=by
 intro a0 k;obtain⟨ih0,ih1⟩:=spec_AttrsOk.mono_l k;unfold spec_AttrsOk.f;repeat' (with_reducible first|exact ih0 _ _|exact ih1 _ _ _|exact spec_l4Attr.mono _ _ _|exact LeO.refl _|exact LeO.none _|refine LeO.ite ?_ ?_|refine LeO.bind ?_ (fun _=> ?_))
theorem spec_AttrsOk.calls(k:Nat)(A0:Option Addr)(c0:Nat)(l0:List (S72))(r:Bool)(w:World)(hr0:Kd.C k72 w A0 l0.length l0)(hc0:l0.length≤c0)(h:spec_AttrsOk.f k l0=some r):
 Calls Tryz.prog 50 #[.slice A0 l0.length c0] w fun e w'=>e= .returned (.bool r)∧Below w.heap.size w w':=by
 have hu72:=Tryz.underlying72;have HR0:=Ak hr0;have HC0:=Ak hc0;clear hr0 hc0;have HB:=Ak (Below.refl w.heap.size w);have H:(if(l0.length:Int)>20 then(some false)else(spec_AttrsOk.l0 k l0 0))=some r:=h;clear h;by_cases c2:(l0.length:Int)>20
 ·rw[if_pos c2]at H;have c2b0:decide (20<(l0.length:Int))=true:=decide_eq_true c2;have c2b1:decide (20<l0.length)=true:=decide_eq_true (by omega);clear c2;obtain rfl:=Oi H;go_enter Tryz.func50,Tryz.ntmps50;go_wp2;repeat(go_quiet (fail);try go_wp2)
  go_ret;exact⟨rfl,by repeat(first|exact HB.out|apply below_alloc|apply pw_below_drewN|apply below_drew1)⟩
 ·rw[if_neg c2]at H;have c2b0:decide (20<(l0.length:Int))=false:=decide_eq_false c2;have c2b1:decide (20<l0.length)=false:=decide_eq_false (by omega);clear c2;have H':=Ak H;clear H;go_enter Tryz.func50,Tryz.ntmps50;go_wp2;repeat(go_quiet (fail);try go_wp2)
  go_loopg [3] k (fun kq v3 w'=> ∃(x3_1:Int),v3= .int .i64 x3_1∧Aside0 (spec_AttrsOk.l0 kq l0 x3_1=some r)∧Aside0 (kq≤k)∧Aside0 (Below w.heap.size w w'));case atStart=>exact⟨(0),rfl,H',⟨Nat.le_refl _⟩,⟨by repeat(first|exact HB.out|apply below_alloc|apply pw_below_drewN|apply below_drew1)⟩⟩
  case round=>
   clear H';obtain⟨x3_1,rfl,HA,HK1,HB⟩:=hrel;cases gk with
   |zero=>exact absurd HA.out (by simp [spec_AttrsOk.l0])
   |succ k1=>
    have H:=HA.out;clear HA;simp only[spec_AttrsOk.l0]at H;by_cases c3:x3_1<(l0.length:Int)
    ·rw[if_pos c3]at H;have c3b0:=decide_eq_true c3;clear c3;by_cases c4:0≤x3_1
     ·rw[if_pos c4]at H;have c4b0:=decide_eq_true c4;clear c4;replace H:=Ob H;obtain⟨t102,A50,H⟩:=H;replace H:(if t102=true then(spec_AttrsOk.l1 k1 l0 x3_1 0)else(some false))=some r:=H;have A5:=Ak A50;clear A50;by_cases c6:t102=true
      ·subst c6;rw[if_pos rfl]at H;have H':=Ak H;clear H;have p101:0≤(x3_1:Int):=of_decide_eq_true (by assumption);have q101:x3_1<(l0.length:Int):=of_decide_eq_true (by assumption);obtain⟨ad101,e101,hx101_0,hx101_1⟩:=at_T72 HR0.out x3_1 p101 q101;cases e101;replace hx101_0:=pw_cell_below HB.out hx101_0;replace hx101_1:=pw_cell_below HB.out hx101_1;replace p101:=eq_true p101;replace q101:=eq_true q101;go_wp2_with (first|(go_at_call 83;(with_reducible refine(spec_l4Attr.calls k1 ((rd_T72 l0 x3_1).f0) ((rd_T72 l0 x3_1).f1) true _ A5.out).mono ?_);rintro e w7 ⟨rfl,hb⟩;replace HB:=Ak (below_step (by repeat(first|exact HB.out|apply below_alloc|apply pw_below_drewN|apply below_drew1)) hb);(try clear hb)));repeat(go_quiet (first|(go_at_call 83;(with_reducible refine(spec_l4Attr.calls k1 ((rd_T72 l0 x3_1).f0) ((rd_T72 l0 x3_1).f1) true _ A5.out).mono ?_);rintro e w7 ⟨rfl,hb⟩;replace HB:=Ak (below_step (by repeat(first|exact HB.out|apply below_alloc|apply pw_below_drewN|apply below_drew1)) hb);(try clear hb)));try go_wp2_with (first|(go_at_call 83;(with_reducible refine(spec_l4Attr.calls k1 ((rd_T72 l0 x3_1).f0) ((rd_T72 l0 x3_1).f1) true _ A5.out).mono ?_);rintro e w7 ⟨rfl,hb⟩;replace HB:=Ak (below_step (by repeat(first|exact HB.out|apply below_alloc|apply pw_below_drewN|apply below_drew1)) hb);(try clear hb))))
       go_loopg [4] k1 (fun kq v4 w'=> ∃(x4_2:Int),v4= .int .i64 x4_2∧Aside0 (spec_AttrsOk.l1 kq l0 x3_1 x4_2=some r)∧Aside0 (kq≤k1)∧Aside0 (Below w.heap.size w w'));case atStart=>exact⟨(0),rfl,H',⟨Nat.le_refl _⟩,⟨by repeat(first|exact HB.out|apply below_alloc|apply pw_below_drewN|apply below_drew1)⟩⟩
       case round=>
        clear H';obtain⟨x4_2,rfl,HA,HK2,HB⟩:=hrel;cases gk with
        |zero=>exact absurd HA.out (by simp [spec_AttrsOk.l1])
        |succ k2=>
         have H:=HA.out;clear HA;simp only[spec_AttrsOk.l1]at H;by_cases c8:x4_2<x3_1
         ·rw[if_pos c8]at H;have c8b0:=decide_eq_true c8;clear c8;by_cases c9:0≤x4_2
          ·rw[if_pos c9]at H;have c9b0:=decide_eq_true c9;clear c9;by_cases c10:x4_2<(l0.length:Int)
           ·rw[if_pos c10]at H;have c10b0:=decide_eq_true c10;clear c10;by_cases c11:0≤x3_1
            ·rw[if_pos c11]at H;have c11b0:=decide_eq_true c11;clear c11;by_cases c12:x3_1<(l0.length:Int)
             ·rw[if_pos c12]at H;have c12b0:=decide_eq_true c12;clear c12;by_cases c13:((rd_T72 l0 x4_2).f0).toList=((rd_T72 l0 x3_1).f0).toList
              ·rw[if_pos c13]at H;have c13b0:=beq_iff_eq.mpr c13;have c13b1:=bne_eq_false_iff_eq.mpr c13;clear c13;obtain rfl:=Oi H;have p103:0≤(x4_2:Int):=of_decide_eq_true (by assumption);have q103:x4_2<(l0.length:Int):=of_decide_eq_true (by assumption);obtain⟨ad103,e103,hx103_0,hx103_1⟩:=at_T72 HR0.out x4_2 p103 q103;obtain rfl:ad101=ad103:=(by injection e103)
               replace hx103_0:=pw_cell_below HB.out hx103_0;replace hx103_1:=pw_cell_below HB.out hx103_1;replace p103:=eq_true p103;replace q103:=eq_true q103;have p104:0≤(x3_1:Int):=of_decide_eq_true (by assumption);have q104:x3_1<(l0.length:Int):=of_decide_eq_true (by assumption);obtain⟨ad104,e104,hx104_0,hx104_1⟩:=at_T72 HR0.out x3_1 p104 q104;obtain rfl:ad101=ad104:=(by injection e104)
               replace hx104_0:=pw_cell_below HB.out hx104_0;replace hx104_1:=pw_cell_below HB.out hx104_1;replace p104:=eq_true p104;replace q104:=eq_true q104;go_wp2;repeat(go_quiet (fail);try go_wp2)
               go_ret;exact⟨rfl,by repeat(first|exact HB.out|apply below_alloc|apply pw_below_drewN|apply below_drew1)⟩
              ·rw[if_neg c13]at H;have c13b0:=beq_eq_false_iff_ne.mpr c13;have c13b1:=bne_iff_ne.mpr c13;have H':=Ak H;clear H;have p103:0≤(x4_2:Int):=of_decide_eq_true (by assumption);have q103:x4_2<(l0.length:Int):=of_decide_eq_true (by assumption);obtain⟨ad103,e103,hx103_0,hx103_1⟩:=at_T72 HR0.out x4_2 p103 q103;obtain rfl:ad101=ad103:=(by injection e103)
               replace hx103_0:=pw_cell_below HB.out hx103_0;replace hx103_1:=pw_cell_below HB.out hx103_1;replace p103:=eq_true p103;replace q103:=eq_true q103;have p104:0≤(x3_1:Int):=of_decide_eq_true (by assumption);have q104:x3_1<(l0.length:Int):=of_decide_eq_true (by assumption);obtain⟨ad104,e104,hx104_0,hx104_1⟩:=at_T72 HR0.out x3_1 p104 q104;obtain rfl:ad101=ad104:=(by injection e104)
               replace hx104_0:=pw_cell_below HB.out hx104_0;replace hx104_1:=pw_cell_below HB.out hx104_1;replace p104:=eq_true p104;replace q104:=eq_true q104;go_wp2;repeat(go_quiet (fail);try go_wp2)
               go_roundg k2;case measure=>have:=HK1.out;have:=HK2.out;omega
               case rel=>exact⟨(wrap64 (x4_2+1)),rfl,H',⟨by have:=HK1.out;have:=HK2.out;omega⟩,⟨by repeat(first|exact HB.out|apply below_alloc|apply pw_below_drewN|apply below_drew1)⟩⟩
             ·rw[if_neg c12]at H;exact absurd H (by simp)
            ·rw[if_neg c11]at H;exact absurd H (by simp)
           ·rw[if_neg c10]at H;exact absurd H (by simp)
          ·rw[if_neg c9]at H;exact absurd H (by simp)
         ·rw[if_neg c8]at H;have c8b0:=decide_eq_false c8;clear c8;have H':=Ak H;clear H;go_wp2;repeat(go_quiet (fail);try go_wp2)
          go_roundg k2;case measure=>have:=HK1.out;have:=HK2.out;omega
          case rel=>exact⟨(wrap64 (x3_1+1)),rfl,H',⟨by have:=HK1.out;have:=HK2.out;omega⟩,⟨by repeat(first|exact HB.out|apply below_alloc|apply pw_below_drewN|apply below_drew1)⟩⟩
      ·replace c6:=Bool.eq_false_iff.mpr c6;subst c6;rw[if_neg (show ¬(false=true)by decide)]at H;obtain rfl:=Oi H;have p101:0≤(x3_1:Int):=of_decide_eq_true (by assumption);have q101:x3_1<(l0.length:Int):=of_decide_eq_true (by assumption);obtain⟨ad101,e101,hx101_0,hx101_1⟩:=at_T72 HR0.out x3_1 p101 q101;cases e101;replace hx101_0:=pw_cell_below HB.out hx101_0;replace hx101_1:=pw_cell_below HB.out hx101_1;replace p101:=eq_true p101;replace q101:=eq_true q101;go_wp2_with (first|(go_at_call 83;(with_reducible refine(spec_l4Attr.calls k1 ((rd_T72 l0 x3_1).f0) ((rd_T72 l0 x3_1).f1) false _ A5.out).mono ?_);rintro e w14 ⟨rfl,hb⟩;replace HB:=Ak (below_step (by repeat(first|exact HB.out|apply below_alloc|apply pw_below_drewN|apply below_drew1)) hb);(try clear hb)));repeat(go_quiet (first|(go_at_call 83;(with_reducible refine(spec_l4Attr.calls k1 ((rd_T72 l0 x3_1).f0) ((rd_T72 l0 x3_1).f1) false _ A5.out).mono ?_);rintro e w14 ⟨rfl,hb⟩;replace HB:=Ak (below_step (by repeat(first|exact HB.out|apply below_alloc|apply pw_below_drewN|apply below_drew1)) hb);(try clear hb)));try go_wp2_with (first|(go_at_call 83;(with_reducible refine(spec_l4Attr.calls k1 ((rd_T72 l0 x3_1).f0) ((rd_T72 l0 x3_1).f1) false _ A5.out).mono ?_);rintro e w14 ⟨rfl,hb⟩;replace HB:=Ak (below_step (by repeat(first|exact HB.out|apply below_alloc|apply pw_below_drewN|apply below_drew1)) hb);(try clear hb))))
       go_ret;exact⟨rfl,by repeat(first|exact HB.out|apply below_alloc|apply pw_below_drewN|apply below_drew1)⟩
     ·rw[if_neg c4]at H;exact absurd H (by simp)
    ·rw[if_neg c3]at H;have c3b0:=decide_eq_false c3;clear c3;obtain rfl:=Oi H;go_wp2;repeat(go_quiet (fail);try go_wp2)
     go_ret;exact⟨rfl,by repeat(first|exact HB.out|apply below_alloc|apply pw_below_drewN|apply below_drew1)⟩
def spec_l6Node.j0:Nat→Bool→Int→ByteArray→List (S72)→ByteArray→Int→List Int→Option (Bool)
 |0,_,_,_,_,_,_,_=>none
 |k+1,x3,x102000,x102001,x102002,x102003,x102004,x102005=>if x102000=1 then(if x3=true then(some ((x102002.length:Int)==0))else(some false))else(if x102000=2 then(if x102003.toList=([]:List UInt8)then(if(x102002.length:Int)=0 then(if(x102001.size:Int)≤60 then((spec_l1Ok.f k x102001).bind fun t102=>(if t102=true then(some ((x102005.length:Int)==0))else(some false)))else(some false))else(some false))else(some false))else(if x102000=3 then(if x102003.toList=([]:List UInt8)then((spec_NameOk.f k x102001).bind fun t103=>(if t103=true then((spec_AttrsOk.f k x102002).bind fun t104=>(some t104))else(some false)))else(some false))else(if x102000=4 then(if x102001.toList=([]:List UInt8)then(if(x102002.length:Int)=0 then(if x102003.toList=([]:List UInt8)then(some false)else((spec_l1Ok.f k x102003).bind fun t105=>(if t105=true then(some ((x102005.length:Int)==0))else(some false))))else(some false))else(some false))else(if x102000=5 then(if x102001.toList=([]:List UInt8)then(if(x102002.length:Int)=0 then((spec_l1Ok.f k x102003).bind fun t106=>(if t106=true then(some ((x102005.length:Int)==0))else(some false)))else(some false))else(some false))else(some false)))))
def spec_l6Node.f(k:Nat)(a0_0:Int)(a0_1:ByteArray)(l0_2:List (S72))(a0_3:ByteArray)(a0_4:Int)(l0_5:List Int):Option (Bool):=if a0_1.toList=([]:List UInt8)then(spec_l6Node.j0 k (a0_3.toList==([]:List UInt8)) a0_0 a0_1 l0_2 a0_3 a0_4 l0_5)else(spec_l6Node.j0 k false a0_0 a0_1 l0_2 a0_3 a0_4 l0_5)
theorem spec_l6Node.mono_l: ∀k,(∀y0 y1 y2 y3 y4 y5 y6,LeO (spec_l6Node.j0 k y0 y1 y2 y3 y4 y5 y6) (spec_l6Node.j0 (k+1) y0 y1 y2 y3 y4 y5 y6))
 |0=>fun _ _ _ _ _ _ _ r h=>by simp [spec_l6Node.j0]at h
 |k+1=>by
  have ih0:=spec_l6Node.mono_l k
  ·intro y0 y1 y2 y3 y4 y5 y6;unfold spec_l6Node.j0;repeat' (with_reducible first|exact ih0 _ _ _ _ _ _ _|exact spec_AttrsOk.mono _ _|exact spec_NameOk.mono _ _|exact spec_l1Ok.mono _ _|exact LeO.refl _|exact LeO.none _|refine LeO.ite ?_ ?_|refine LeO.bind ?_ (fun _=> ?_))
theorem spec_l6Node.mono: ∀a0 a1 a2 a3 a4 a5 k,LeO (spec_l6Node.f k a0 a1 a2 a3 a4 a5) (spec_l6Node.f (k+1) a0 a1 a2 a3 a4 a5):=by
 intro a0 a1 a2 a3 a4 a5 k;have ih0:=spec_l6Node.mono_l k;unfold spec_l6Node.f;repeat' (with_reducible first|exact ih0 _ _ _ _ _ _ _|exact spec_AttrsOk.mono _ _|exact spec_NameOk.mono _ _|exact spec_l1Ok.mono _ _|exact LeO.refl _|exact LeO.none _|refine LeO.ite ?_ ?_|refine LeO.bind ?_ (fun _=> ?_))
theorem spec_l6Node.calls(k:Nat)(a0_0:Int)(a0_1:ByteArray)(A0_2:Option Addr)(c0_2:Nat)(l0_2:List (S72))(a0_3:ByteArray)(a0_4:Int)(A0_5:Option Addr)(c0_5:Nat)(l0_5:List Int)(r:Bool)(w:World)(hr0_2:Kd.C k72 w A0_2 l0_2.length l0_2)(hc0_2:l0_2.length≤c0_2)(hr0_5:Kd.C (Kd.int .i64) w A0_5 l0_5.length l0_5)(hc0_5:l0_5.length≤c0_5)(h:spec_l6Node.f k a0_0 a0_1 l0_2 a0_3 a0_4 l0_5=some r):
 Calls Tryz.prog 28 #[.agg #[.int .i64 a0_0, .string a0_1, .slice A0_2 l0_2.length c0_2, .string a0_3, .int .i64 a0_4, .slice A0_5 l0_5.length c0_5]] w fun e w'=>e= .returned (.bool r)∧Below w.heap.size w w':=by
 have hu41:=Tryz.underlying41;have HR0_2:=Ak hr0_2;have HC0_2:=Ak hc0_2;clear hr0_2 hc0_2;have HR0_5:=Ak hr0_5;have HC0_5:=Ak hc0_5;clear hr0_5 hc0_5;have HB:=Ak (Below.refl w.heap.size w);have H:(if a0_1.toList=([]:List UInt8)then(spec_l6Node.j0 k (a0_3.toList==([]:List UInt8)) a0_0 a0_1 l0_2 a0_3 a0_4 l0_5)else(spec_l6Node.j0 k false a0_0 a0_1 l0_2 a0_3 a0_4 l0_5))=some r:=h;clear h;have HC2:=Ak H;clear H;go_enter Tryz.func28,Tryz.ntmps28;go_upto_region 1 with(first|((with_reducible refine gate_dst (N:=1) rfl ?_);(try(refine gate_guard (by rfl) ?_;dsimp only));refine box_event ?hg (N:=1) ?hd (cs:= #[.int .i64 a0_0, .string a0_1, .slice A0_2 l0_2.length c0_2, .string a0_3, .int .i64 a0_4, .slice A0_5 l0_5.length c0_5]) (t:=41) ?hr ?_;(case hd=>rfl);(case hg=>rfl);(case hr=>first|(go_simp;done)|(go_simp;rfl));intro gb101 hg w3 hbox hb;have n0_:=Ak (below_step (HB.out) hb);have n1_:=Ak (hbox);have n2_:=Ak ((by rw[hg];exact(below_size (HB.out)):w.heap.size≤gb101));have n3_:=n2_;clear HB;have HB:=n0_;have BK101:=n1_;have GW101:=n2_;have GE101:=n3_;clear n0_ n1_ n2_ n3_;clear hb hbox hg));(try simp only[Act.put,List.setIfInBounds_toArray,List.set_cons_zero,List.set_cons_succ]);go_cut [3] (fun v3 wc=> ∃(kq:Nat) (x3_1:Bool),v3= .bool x3_1∧Aside0 (spec_l6Node.j0 kq x3_1 a0_0 a0_1 l0_2 a0_3 a0_4 l0_5=some r)∧Aside0 (kq≤k)∧Aside0 (wc.heap[gb101]? =some (.cells #[.int .i64 a0_0, .string a0_1,(.slice A0_2 l0_2.length c0_2), .string a0_3, .int .i64 a0_4,(.slice A0_5 l0_5.length c0_5)] 41 (0,0)))∧Aside0 (Below w.heap.size w wc));case first=>
  have H:=HC2.out;clear HC2;by_cases c4:a0_1.toList=([]:List UInt8)
  ·rw[if_pos c4]at H;have c4b0:=beq_iff_eq.mpr c4;have c4b1:=bne_eq_false_iff_eq.mpr c4;clear c4;(first|rw[c4b0]|(simp only[i64_w,i32_w];rw[c4b0])|skip);have H':=Ak H;clear H;have hcz5_0:=blk_cell BK101.out 0;have hcz5_1:=blk_cell BK101.out 1;have hcz5_2:=blk_cell BK101.out 2;have hcz5_3:=blk_cell BK101.out 3;have hcz5_4:=blk_cell BK101.out 4;have hcz5_5:=blk_cell BK101.out 5;have hfz5_0:=blk_frozen BK101.out;go_wp2;go_meet;case rel=>exact⟨_,((a0_3.toList==([]:List UInt8))),(by first|rfl|(simp;done)|(simp [*];done)),H',⟨by first|omega|exact Nat.le_refl _⟩,⟨by(with_reducible repeat(first|refine blk_drewN ?_ _|refine blk_drew ?_|refine blk_alloc ?_ _));exact BK101.out⟩,⟨HB.out⟩⟩
  ·rw[if_neg c4]at H;have c4b0:=beq_eq_false_iff_ne.mpr c4;have c4b1:=bne_iff_ne.mpr c4;(first|rw[c4b0]|(simp only[i64_w,i32_w];rw[c4b0])|skip);have H':=Ak H;clear H;have hcz6_0:=blk_cell BK101.out 0;have hcz6_1:=blk_cell BK101.out 1;have hcz6_2:=blk_cell BK101.out 2;have hcz6_3:=blk_cell BK101.out 3;have hcz6_4:=blk_cell BK101.out 4;have hcz6_5:=blk_cell BK101.out 5;have hfz6_0:=blk_frozen BK101.out;go_wp2;go_meet;case rel=>exact⟨_,(false),(by first|rfl|(simp;done)|(simp [*];done)),H',⟨by first|omega|exact Nat.le_refl _⟩,⟨by(with_reducible repeat(first|refine blk_drewN ?_ _|refine blk_drew ?_|refine blk_alloc ?_ _));exact BK101.out⟩,⟨HB.out⟩⟩
 case rest=>
  clear HC2;obtain⟨kq,x3_1,rfl,HA,HJ1,BK101,HB⟩:=hcut;cases kq with
  |zero=>exact absurd HA.out (by simp [spec_l6Node.j0])
  |succ kj1=>
   have H:=HA.out;clear HA;simp only[spec_l6Node.j0]at H;by_cases c7:a0_0=1
   ·rw[if_pos c7]at H;have c7b0:=beq_iff_eq.mpr c7;have c7b1:=bne_eq_false_iff_eq.mpr c7;clear c7;by_cases c8:x3_1=true
    ·subst c8;rw[if_pos rfl]at H;obtain rfl:=Oi H;have hcz9_0:=blk_cell BK101.out 0;have hcz9_1:=blk_cell BK101.out 1;have hcz9_2:=blk_cell BK101.out 2;have hcz9_3:=blk_cell BK101.out 3;have hcz9_4:=blk_cell BK101.out 4;have hcz9_5:=blk_cell BK101.out 5;have hfz9_0:=blk_frozen BK101.out;go_wp2;go_ret;exact⟨by first|rfl|(simp [*]<;>rfl),HB.out⟩
    ·replace c8:=Bool.eq_false_iff.mpr c8;subst c8;rw[if_neg (show ¬(false=true)by decide)]at H;obtain rfl:=Oi H;have hcz10_0:=blk_cell BK101.out 0;have hcz10_1:=blk_cell BK101.out 1;have hcz10_2:=blk_cell BK101.out 2;have hcz10_3:=blk_cell BK101.out 3;have hcz10_4:=blk_cell BK101.out 4;have hcz10_5:=blk_cell BK101.out 5;have hfz10_0:=blk_frozen BK101.out;go_wp2;go_ret;exact⟨by first|rfl|(simp [*]<;>rfl),HB.out⟩
   ·rw[if_neg c7]at H;have c7b0:=beq_eq_false_iff_ne.mpr c7;have c7b1:=bne_iff_ne.mpr c7;by_cases c11:a0_0=2
    ·rw[if_pos c11]at H;have c11b0:=beq_iff_eq.mpr c11;have c11b1:=bne_eq_false_iff_eq.mpr c11;clear c11;by_cases c12:a0_3.toList=([]:List UInt8)
     ·rw[if_pos c12]at H;have c12b0:=beq_iff_eq.mpr c12;have c12b1:=bne_eq_false_iff_eq.mpr c12;clear c12;by_cases c13:(l0_2.length:Int)=0
      ·rw[if_pos c13]at H;have c13b0:=beq_iff_eq.mpr c13;have c13b1:=bne_eq_false_iff_eq.mpr c13;clear c13;by_cases c14:(a0_1.size:Int)≤60
       ·rw[if_pos c14]at H;have c14b0:=decide_eq_true c14;have c14b1:decide (a0_1.size≤60)=true:=decide_eq_true (by omega);clear c14;replace H:=Ob H;obtain⟨t102,A150,H⟩:=H;replace H:(if t102=true then(some ((l0_5.length:Int)==0))else(some false))=some r:=H;have A15:=Ak A150;clear A150;by_cases c16:t102=true
        ·subst c16;rw[if_pos rfl]at H;obtain rfl:=Oi H;have hcz17_0:=blk_cell BK101.out 0;have hcz17_1:=blk_cell BK101.out 1;have hcz17_2:=blk_cell BK101.out 2;have hcz17_3:=blk_cell BK101.out 3;have hcz17_4:=blk_cell BK101.out 4;have hcz17_5:=blk_cell BK101.out 5;have hfz17_0:=blk_frozen BK101.out;go_wp2_with (first|(go_at_call 48;(with_reducible refine(spec_l1Ok.calls kj1 a0_1 true _ A15.out).mono ?_);rintro e w18 ⟨rfl,hb⟩;replace BK101:=Ak (blk_below BK101.out hb);replace HB:=Ak (below_step (HB.out) hb);(try clear hb);have hcz19_0:=blk_cell BK101.out 0;have hcz19_1:=blk_cell BK101.out 1;have hcz19_2:=blk_cell BK101.out 2;have hcz19_3:=blk_cell BK101.out 3;have hcz19_4:=blk_cell BK101.out 4;have hcz19_5:=blk_cell BK101.out 5;have hfz19_0:=blk_frozen BK101.out;have hfz19_1:=blk_frozen BK101.out 1;have hfz19_2:=blk_frozen BK101.out 2;have hfz19_3:=blk_frozen BK101.out 3;have hfz19_4:=blk_frozen BK101.out 4;have hfz19_5:=blk_frozen BK101.out 5));go_ret;exact⟨by first|rfl|(simp [*]<;>rfl),HB.out⟩
        ·replace c16:=Bool.eq_false_iff.mpr c16;subst c16;rw[if_neg (show ¬(false=true)by decide)]at H;obtain rfl:=Oi H;have hcz20_0:=blk_cell BK101.out 0;have hcz20_1:=blk_cell BK101.out 1;have hcz20_2:=blk_cell BK101.out 2;have hcz20_3:=blk_cell BK101.out 3;have hcz20_4:=blk_cell BK101.out 4;have hcz20_5:=blk_cell BK101.out 5;have hfz20_0:=blk_frozen BK101.out;go_wp2_with (first|(go_at_call 48;(with_reducible refine(spec_l1Ok.calls kj1 a0_1 false _ A15.out).mono ?_);rintro e w21 ⟨rfl,hb⟩;replace BK101:=Ak (blk_below BK101.out hb);replace HB:=Ak (below_step (HB.out) hb);(try clear hb)));go_ret;exact⟨by first|rfl|(simp [*]<;>rfl),HB.out⟩
       ·rw[if_neg c14]at H;have c14b0:=decide_eq_false c14;have c14b1:decide (a0_1.size≤60)=false:=decide_eq_false (by omega);clear c14;obtain rfl:=Oi H;have hcz22_0:=blk_cell BK101.out 0;have hcz22_1:=blk_cell BK101.out 1;have hcz22_2:=blk_cell BK101.out 2;have hcz22_3:=blk_cell BK101.out 3;have hcz22_4:=blk_cell BK101.out 4;have hcz22_5:=blk_cell BK101.out 5;have hfz22_0:=blk_frozen BK101.out;go_wp2;go_ret;exact⟨by first|rfl|(simp [*]<;>rfl),HB.out⟩
      ·rw[if_neg c13]at H;have c13b0:=beq_eq_false_iff_ne.mpr c13;have c13b1:=bne_iff_ne.mpr c13;have c13b2: ¬(l0_2= []):=fun h_=>c13 (by rw[h_];rfl)
       obtain rfl:=Oi H;have hcz23_0:=blk_cell BK101.out 0;have hcz23_1:=blk_cell BK101.out 1;have hcz23_2:=blk_cell BK101.out 2;have hcz23_3:=blk_cell BK101.out 3;have hcz23_4:=blk_cell BK101.out 4;have hcz23_5:=blk_cell BK101.out 5;have hfz23_0:=blk_frozen BK101.out;go_wp2;go_ret;exact⟨by first|rfl|(simp [*]<;>rfl),HB.out⟩
     ·rw[if_neg c12]at H;have c12b0:=beq_eq_false_iff_ne.mpr c12;have c12b1:=bne_iff_ne.mpr c12;obtain rfl:=Oi H;have hcz24_0:=blk_cell BK101.out 0;have hcz24_1:=blk_cell BK101.out 1;have hcz24_2:=blk_cell BK101.out 2;have hcz24_3:=blk_cell BK101.out 3;have hcz24_4:=blk_cell BK101.out 4;have hcz24_5:=blk_cell BK101.out 5;have hfz24_0:=blk_frozen BK101.out;go_wp2;go_ret;exact⟨by first|rfl|(simp [*]<;>rfl),HB.out⟩
    ·rw[if_neg c11]at H;have c11b0:=beq_eq_false_iff_ne.mpr c11;have c11b1:=bne_iff_ne.mpr c11;by_cases c25:a0_0=3
     ·rw[if_pos c25]at H;have c25b0:=beq_iff_eq.mpr c25;have c25b1:=bne_eq_false_iff_eq.mpr c25;clear c25;by_cases c26:a0_3.toList=([]:List UInt8)
      ·rw[if_pos c26]at H;have c26b0:=beq_iff_eq.mpr c26;have c26b1:=bne_eq_false_iff_eq.mpr c26;clear c26;replace H:=Ob H;obtain⟨t103,A270,H⟩:=H;replace H:(if t103=true then((spec_AttrsOk.f kj1 l0_2).bind fun t104=>(some t104))else(some false))=some r:=H;have A27:=Ak A270;clear A270;by_cases c28:t103=true
       ·subst c28;rw[if_pos rfl]at H;replace H:=Ob H;obtain⟨t104,A290,H⟩:=H;replace H:(some t104)=some r:=H;have A29:=Ak A290;clear A290;obtain rfl:=Oi H;have hcz30_0:=blk_cell BK101.out 0;have hcz30_1:=blk_cell BK101.out 1;have hcz30_2:=blk_cell BK101.out 2;have hcz30_3:=blk_cell BK101.out 3;have hcz30_4:=blk_cell BK101.out 4;have hcz30_5:=blk_cell BK101.out 5;have hfz30_0:=blk_frozen BK101.out;go_wp2_with (first|(go_at_call 49;(with_reducible refine(spec_NameOk.calls kj1 a0_1 true _ A27.out).mono ?_);rintro e w31 ⟨rfl,hb⟩;replace BK101:=Ak (blk_below BK101.out hb);replace HB:=Ak (below_step (HB.out) hb);(try clear hb);have hcz32_0:=blk_cell BK101.out 0;have hcz32_1:=blk_cell BK101.out 1;have hcz32_2:=blk_cell BK101.out 2;have hcz32_3:=blk_cell BK101.out 3;have hcz32_4:=blk_cell BK101.out 4;have hcz32_5:=blk_cell BK101.out 5;have hfz32_0:=blk_frozen BK101.out;have hfz32_1:=blk_frozen BK101.out 1;have hfz32_2:=blk_frozen BK101.out 2;have hfz32_3:=blk_frozen BK101.out 3;have hfz32_4:=blk_frozen BK101.out 4;have hfz32_5:=blk_frozen BK101.out 5)|(go_at_call 50;(with_reducible refine(spec_AttrsOk.calls kj1 _ _ l0_2 t104 _ ?side1 ?side2 A29.out).mono ?_);(case side1=>exact(Kd.C_below HR0_2.out HB.out));(case side2=>exact HC0_2.out);rintro e w33 ⟨rfl,hb⟩;replace BK101:=Ak (blk_below BK101.out hb);replace HB:=Ak (below_step (HB.out) hb);(try clear hb)));go_ret;exact⟨by first|rfl|(simp [*]<;>rfl),HB.out⟩
       ·replace c28:=Bool.eq_false_iff.mpr c28;subst c28;rw[if_neg (show ¬(false=true)by decide)]at H;obtain rfl:=Oi H;have hcz34_0:=blk_cell BK101.out 0;have hcz34_1:=blk_cell BK101.out 1;have hcz34_2:=blk_cell BK101.out 2;have hcz34_3:=blk_cell BK101.out 3;have hcz34_4:=blk_cell BK101.out 4;have hcz34_5:=blk_cell BK101.out 5;have hfz34_0:=blk_frozen BK101.out;go_wp2_with (first|(go_at_call 49;(with_reducible refine(spec_NameOk.calls kj1 a0_1 false _ A27.out).mono ?_);rintro e w35 ⟨rfl,hb⟩;replace BK101:=Ak (blk_below BK101.out hb);replace HB:=Ak (below_step (HB.out) hb);(try clear hb)));go_ret;exact⟨by first|rfl|(simp [*]<;>rfl),HB.out⟩
      ·rw[if_neg c26]at H;have c26b0:=beq_eq_false_iff_ne.mpr c26;have c26b1:=bne_iff_ne.mpr c26;obtain rfl:=Oi H;have hcz36_0:=blk_cell BK101.out 0;have hcz36_1:=blk_cell BK101.out 1;have hcz36_2:=blk_cell BK101.out 2;have hcz36_3:=blk_cell BK101.out 3;have hcz36_4:=blk_cell BK101.out 4;have hcz36_5:=blk_cell BK101.out 5;have hfz36_0:=blk_frozen BK101.out;go_wp2;go_ret;exact⟨by first|rfl|(simp [*]<;>rfl),HB.out⟩
     ·rw[if_neg c25]at H;have c25b0:=beq_eq_false_iff_ne.mpr c25;have c25b1:=bne_iff_ne.mpr c25;by_cases c37:a0_0=4
      ·rw[if_pos c37]at H;have c37b0:=beq_iff_eq.mpr c37;have c37b1:=bne_eq_false_iff_eq.mpr c37;clear c37;by_cases c38:a0_1.toList=([]:List UInt8)
       ·rw[if_pos c38]at H;have c38b0:=beq_iff_eq.mpr c38;have c38b1:=bne_eq_false_iff_eq.mpr c38;clear c38;by_cases c39:(l0_2.length:Int)=0
        ·rw[if_pos c39]at H;have c39b0:=beq_iff_eq.mpr c39;have c39b1:=bne_eq_false_iff_eq.mpr c39;clear c39;by_cases c40:a0_3.toList=([]:List UInt8)
         ·rw[if_pos c40]at H;have c40b0:=beq_iff_eq.mpr c40;have c40b1:=bne_eq_false_iff_eq.mpr c40;clear c40;obtain rfl:=Oi H;have hcz41_0:=blk_cell BK101.out 0;have hcz41_1:=blk_cell BK101.out 1;have hcz41_2:=blk_cell BK101.out 2;have hcz41_3:=blk_cell BK101.out 3;have hcz41_4:=blk_cell BK101.out 4;have hcz41_5:=blk_cell BK101.out 5;have hfz41_0:=blk_frozen BK101.out;go_wp2;go_ret;exact⟨by first|rfl|(simp [*]<;>rfl),HB.out⟩
         ·rw[if_neg c40]at H;have c40b0:=beq_eq_false_iff_ne.mpr c40;have c40b1:=bne_iff_ne.mpr c40;replace H:=Ob H;obtain⟨t105,A420,H⟩:=H;replace H:(if t105=true then(some ((l0_5.length:Int)==0))else(some false))=some r:=H;have A42:=Ak A420;clear A420;by_cases c43:t105=true
          ·subst c43;rw[if_pos rfl]at H;obtain rfl:=Oi H;have hcz44_0:=blk_cell BK101.out 0;have hcz44_1:=blk_cell BK101.out 1;have hcz44_2:=blk_cell BK101.out 2;have hcz44_3:=blk_cell BK101.out 3;have hcz44_4:=blk_cell BK101.out 4;have hcz44_5:=blk_cell BK101.out 5;have hfz44_0:=blk_frozen BK101.out;go_wp2_with (first|(go_at_call 48;(with_reducible refine(spec_l1Ok.calls kj1 a0_3 true _ A42.out).mono ?_);rintro e w45 ⟨rfl,hb⟩;replace BK101:=Ak (blk_below BK101.out hb);replace HB:=Ak (below_step (HB.out) hb);(try clear hb);have hcz46_0:=blk_cell BK101.out 0;have hcz46_1:=blk_cell BK101.out 1;have hcz46_2:=blk_cell BK101.out 2;have hcz46_3:=blk_cell BK101.out 3;have hcz46_4:=blk_cell BK101.out 4;have hcz46_5:=blk_cell BK101.out 5;have hfz46_0:=blk_frozen BK101.out;have hfz46_1:=blk_frozen BK101.out 1;have hfz46_2:=blk_frozen BK101.out 2;have hfz46_3:=blk_frozen BK101.out 3;have hfz46_4:=blk_frozen BK101.out 4;have hfz46_5:=blk_frozen BK101.out 5));go_ret;exact⟨by first|rfl|(simp [*]<;>rfl),HB.out⟩
          ·replace c43:=Bool.eq_false_iff.mpr c43;subst c43;rw[if_neg (show ¬(false=true)by decide)]at H;obtain rfl:=Oi H;have hcz47_0:=blk_cell BK101.out 0;have hcz47_1:=blk_cell BK101.out 1;have hcz47_2:=blk_cell BK101.out 2;have hcz47_3:=blk_cell BK101.out 3;have hcz47_4:=blk_cell BK101.out 4;have hcz47_5:=blk_cell BK101.out 5;have hfz47_0:=blk_frozen BK101.out;go_wp2_with (first|(go_at_call 48;(with_reducible refine(spec_l1Ok.calls kj1 a0_3 false _ A42.out).mono ?_);rintro e w48 ⟨rfl,hb⟩;replace BK101:=Ak (blk_below BK101.out hb);replace HB:=Ak (below_step (HB.out) hb);(try clear hb)));go_ret;exact⟨by first|rfl|(simp [*]<;>rfl),HB.out⟩
        ·rw[if_neg c39]at H;have c39b0:=beq_eq_false_iff_ne.mpr c39;have c39b1:=bne_iff_ne.mpr c39;have c39b2: ¬(l0_2= []):=fun h_=>c39 (by rw[h_];rfl)
         obtain rfl:=Oi H;have hcz49_0:=blk_cell BK101.out 0;have hcz49_1:=blk_cell BK101.out 1;have hcz49_2:=blk_cell BK101.out 2;have hcz49_3:=blk_cell BK101.out 3;have hcz49_4:=blk_cell BK101.out 4;have hcz49_5:=blk_cell BK101.out 5;have hfz49_0:=blk_frozen BK101.out;go_wp2;go_ret;exact⟨by first|rfl|(simp [*]<;>rfl),HB.out⟩
       ·rw[if_neg c38]at H;have c38b0:=beq_eq_false_iff_ne.mpr c38;have c38b1:=bne_iff_ne.mpr c38;obtain rfl:=Oi H;have hcz50_0:=blk_cell BK101.out 0;have hcz50_1:=blk_cell BK101.out 1;have hcz50_2:=blk_cell BK101.out 2;have hcz50_3:=blk_cell BK101.out 3;have hcz50_4:=blk_cell BK101.out 4;have hcz50_5:=blk_cell BK101.out 5;have hfz50_0:=blk_frozen BK101.out;go_wp2;go_ret;exact⟨by first|rfl|(simp [*]<;>rfl),HB.out⟩
      ·rw[if_neg c37]at H;have c37b0:=beq_eq_false_iff_ne.mpr c37;have c37b1:=bne_iff_ne.mpr c37;by_cases c51:a0_0=5
       ·rw[if_pos c51]at H;have c51b0:=beq_iff_eq.mpr c51;have c51b1:=bne_eq_false_iff_eq.mpr c51;clear c51;by_cases c52:a0_1.toList=([]:List UInt8)
        ·rw[if_pos c52]at H;have c52b0:=beq_iff_eq.mpr c52;have c52b1:=bne_eq_false_iff_eq.mpr c52;clear c52;by_cases c53:(l0_2.length:Int)=0
         ·rw[if_pos c53]at H;have c53b0:=beq_iff_eq.mpr c53;have c53b1:=bne_eq_false_iff_eq.mpr c53;clear c53;replace H:=Ob H;obtain⟨t106,A540,H⟩:=H;replace H:(if t106=true then(some ((l0_5.length:Int)==0))else(some false))=some r:=H;have A54:=Ak A540;clear A540;by_cases c55:t106=true
          ·subst c55;rw[if_pos rfl]at H;obtain rfl:=Oi H;have hcz56_0:=blk_cell BK101.out 0;have hcz56_1:=blk_cell BK101.out 1;have hcz56_2:=blk_cell BK101.out 2;have hcz56_3:=blk_cell BK101.out 3;have hcz56_4:=blk_cell BK101.out 4;have hcz56_5:=blk_cell BK101.out 5;have hfz56_0:=blk_frozen BK101.out;go_wp2_with (first|(go_at_call 48;(with_reducible refine(spec_l1Ok.calls kj1 a0_3 true _ A54.out).mono ?_);rintro e w57 ⟨rfl,hb⟩;replace BK101:=Ak (blk_below BK101.out hb);replace HB:=Ak (below_step (HB.out) hb);(try clear hb);have hcz58_0:=blk_cell BK101.out 0;have hcz58_1:=blk_cell BK101.out 1;have hcz58_2:=blk_cell BK101.out 2;have hcz58_3:=blk_cell BK101.out 3;have hcz58_4:=blk_cell BK101.out 4;have hcz58_5:=blk_cell BK101.out 5;have hfz58_0:=blk_frozen BK101.out;have hfz58_1:=blk_frozen BK101.out 1;have hfz58_2:=blk_frozen BK101.out 2;have hfz58_3:=blk_frozen BK101.out 3;have hfz58_4:=blk_frozen BK101.out 4;have hfz58_5:=blk_frozen BK101.out 5));go_ret;exact⟨by first|rfl|(simp [*]<;>rfl),HB.out⟩
          ·replace c55:=Bool.eq_false_iff.mpr c55;subst c55;rw[if_neg (show ¬(false=true)by decide)]at H;obtain rfl:=Oi H;have hcz59_0:=blk_cell BK101.out 0;have hcz59_1:=blk_cell BK101.out 1;have hcz59_2:=blk_cell BK101.out 2;have hcz59_3:=blk_cell BK101.out 3;have hcz59_4:=blk_cell BK101.out 4;have hcz59_5:=blk_cell BK101.out 5;have hfz59_0:=blk_frozen BK101.out;go_wp2_with (first|(go_at_call 48;(with_reducible refine(spec_l1Ok.calls kj1 a0_3 false _ A54.out).mono ?_);rintro e w60 ⟨rfl,hb⟩;replace BK101:=Ak (blk_below BK101.out hb);replace HB:=Ak (below_step (HB.out) hb);(try clear hb)));go_ret;exact⟨by first|rfl|(simp [*]<;>rfl),HB.out⟩
         ·rw[if_neg c53]at H;have c53b0:=beq_eq_false_iff_ne.mpr c53;have c53b1:=bne_iff_ne.mpr c53;have c53b2: ¬(l0_2= []):=fun h_=>c53 (by rw[h_];rfl)
          obtain rfl:=Oi H;have hcz61_0:=blk_cell BK101.out 0;have hcz61_1:=blk_cell BK101.out 1;have hcz61_2:=blk_cell BK101.out 2;have hcz61_3:=blk_cell BK101.out 3;have hcz61_4:=blk_cell BK101.out 4;have hcz61_5:=blk_cell BK101.out 5;have hfz61_0:=blk_frozen BK101.out;go_wp2;go_ret;exact⟨by first|rfl|(simp [*]<;>rfl),HB.out⟩
        ·rw[if_neg c52]at H;have c52b0:=beq_eq_false_iff_ne.mpr c52;have c52b1:=bne_iff_ne.mpr c52;obtain rfl:=Oi H;have hcz62_0:=blk_cell BK101.out 0;have hcz62_1:=blk_cell BK101.out 1;have hcz62_2:=blk_cell BK101.out 2;have hcz62_3:=blk_cell BK101.out 3;have hcz62_4:=blk_cell BK101.out 4;have hcz62_5:=blk_cell BK101.out 5;have hfz62_0:=blk_frozen BK101.out;go_wp2;go_ret;exact⟨by first|rfl|(simp [*]<;>rfl),HB.out⟩
       ·rw[if_neg c51]at H;have c51b0:=beq_eq_false_iff_ne.mpr c51;have c51b1:=bne_iff_ne.mpr c51;obtain rfl:=Oi H;have hcz63_0:=blk_cell BK101.out 0;have hcz63_1:=blk_cell BK101.out 1;have hcz63_2:=blk_cell BK101.out 2;have hcz63_3:=blk_cell BK101.out 3;have hcz63_4:=blk_cell BK101.out 4;have hcz63_5:=blk_cell BK101.out 5;have hfz63_0:=blk_frozen BK101.out;go_wp2;go_ret;exact⟨by first|rfl|(simp [*]<;>rfl),HB.out⟩
def fillN(W:World)(gb:Nat)(x:S41)(v2 v5:Value):World:=(((((W.setCell ⟨gb,0,none⟩ (.int .i64 x.f0)).setCell ⟨gb,1,none⟩ (.string x.f1)).setCell ⟨gb,2,none⟩ v2).setCell ⟨gb,3,none⟩ (.string x.f3)).setCell ⟨gb,4,none⟩ (.int .i64 x.f4)).setCell ⟨gb,5,none⟩ v5
theorem fillN_blk{W:World}{gb:Nat}{a0 a1 a2 a3 a4 a5:Value}(x:S41)(v2 v5:Value)(h:W.heap[gb]? =some (.cells #[a0,a1,a2,a3,a4,a5] 41 (0,0))):(fillN W gb x v2 v5).heap[gb]? =some (.cells #[.int .i64 x.f0, .string x.f1,v2, .string x.f3, .int .i64 x.f4,v5] 41 (0,0)):=
 blk_set (blk_set (blk_set (blk_set (blk_set (blk_set h 0 _) 1 _) 2 _) 3 _) 4 _) 5 _
theorem fillN_below{w W:World}{gb:Nat}(x:S41)(v2 v5:Value)(h:Below w.heap.size w W)(hg:w.heap.size≤gb):Below w.heap.size w (fillN W gb x v2 v5):=
 below_set (below_set (below_set (below_set (below_set (below_set h hg) hg) hg) hg) hg) hg
def putN(W:World)(g:Nat)(i:Int)(x:S41)(v2 v5:Value):World:=(((((W.setCell ⟨g,i.toNat*6,none⟩ (.int .i64 x.f0)).setCell ⟨g,i.toNat*6+1,none⟩ (.string x.f1)).setCell ⟨g,i.toNat*6+2,none⟩ v2).setCell ⟨g,i.toNat*6+3,none⟩ (.string x.f3)).setCell ⟨g,i.toNat*6+4,none⟩ (.int .i64 x.f4)).setCell ⟨g,i.toNat*6+5,none⟩ v5
theorem putN_cells(W:World)(g:Nat)(i:Int)(x:S41)(v2 v5:Value):putN W g i x v2 v5=W.setCells g (i.toNat*6+0) [.int .i64 x.f0, .string x.f1,v2, .string x.f3, .int .i64 x.f4,v5]:=rfl
theorem putN_far(W:World)(g:Nat)(i:Int)(x:S41)(v2 v5:Value)(k:Nat)(hk:k≠g):(putN W g i x v2 v5).heap[k]? =W.heap[k]? :=by
 rw[putN_cells];exact setCells_far _ _ k hk
theorem putN_below{w W:World}{g:Nat}(i:Int)(x:S41)(v2 v5:Value)(h:Below w.heap.size w W)(hg:w.heap.size≤g):Below w.heap.size w (putN W g i x v2 v5):=
 below_set (below_set (below_set (below_set (below_set (below_set h hg) hg) hg) hg) hg) hg
theorem putN_kept{w W:World}{S:Nat→Prop}{g:Nat}(i:Int)(x:S41)(v2 v5:Value)(h:Kept w W S)(hg:S g∨w.heap.size≤g):Kept w (putN W g i x v2 v5) S:=
 Kept.setCell (Kept.setCell (Kept.setCell (Kept.setCell (Kept.setCell (Kept.setCell h (p:=⟨g,_,none⟩) hg _) (p:=⟨g,_,none⟩) hg _) (p:=⟨g,_,none⟩) hg _) (p:=⟨g,_,none⟩) hg _) (p:=⟨g,_,none⟩) hg _) (p:=⟨g,_,none⟩) hg _
theorem S_putN{W:World}{base g n cap:Nat}{ok oki:Nat→Prop}{xs:List S41}{i:Int}{c:List Value}(hH:Kd.H k41 41 W base ok (.slice (some ⟨g,0,none⟩) n cap) xs i oki c)(h0:0≤i)(h1:i<n)
 (x:S41){v2 v5:Value}(r2:Kd.R k72 72 W base oki v2 x.f2)(r5:Kd.R (Kd.int .i64) 3 W base oki v5 x.f5)(hog: ∀k,oki k→k≠g):
 Kd.S k41 41 (putN W g i x v2 v5) base ok (.slice (some ⟨g,0,none⟩) n cap) (xs.set i.toNat x):=by
 obtain⟨rows,_,hraw,hcl,hco,hcc,hback⟩:=Kd.H_raw hH h0 h1;have hone: ∀q∈([.int .i64 x.f0, .string x.f1,v2, .string x.f3, .int .i64 x.f4,v5]:List Value),q.oneCell'=true:=by
  intro q hq;simp only[List.mem_cons,List.not_mem_nil,or_false]at hq;rcases hq with rfl|rfl|rfl|rfl|rfl|rfl
  ·rfl
  ·rfl
  ·exact(Kd.R_val r2).2
  ·rfl
  ·rfl
  ·exact(Kd.R_val r5).2
 obtain⟨g1,g2⟩:=Kd.H_seg hH h0 h1 (seg:= [.int .i64 x.f0, .string x.f1,v2, .string x.f3, .int .i64 x.f4,v5]) (j:=0) (show 0+6≤6 by omega) hone;have hc6:c.length=6:=hcl;have hd:List.drop (0+([.int .i64 x.f0, .string x.f1,v2, .string x.f3, .int .i64 x.f4,v5]:List Value).length) c= []:=List.drop_eq_nil_of_le (show c.length≤0+6 by omega);rw[hd,List.take_zero,List.nil_append,List.append_nil]at g1;have hfar: ∀k,oki k→(putN W g i x v2 v5).heap[k]? =W.heap[k]? :=fun k hk=>putN_far W g i x v2 v5 k (hog k hk)
 exact Kd.H_back (w:=putN W g i x v2 v5) g1 (k41_mkM _ _ oki x (Kd.R_step r2 (fun k hk _=>hfar k hk)) (Kd.R_step r5 (fun k hk _=>hfar k hk))) (fun _ hk=>hk)
theorem H_cellN{W:World}{base g n cap:Nat}{ok oki:Nat→Prop}{xs:List S41}{i:Int}{c:List Value}(hH:Kd.H k41 41 W base ok (.slice (some ⟨g,0,none⟩) n cap) xs i oki c)(h0:0≤i)(h1:i<n)(j:Nat)(u:Value)(hu:c[j]? =some u):W.cell? ⟨g,i.toNat*6+j,none⟩=some u:=by
 obtain⟨rows,_,hraw,hcl,hco,hcc,hback⟩:=Kd.H_raw hH h0 h1;exact hcc j u hu
theorem H_freeN{W:World}{base g n cap:Nat}{ok oki:Nat→Prop}{xs:List S41}{i:Int}{c:List Value}(hH:Kd.H k41 41 W base ok (.slice (some ⟨g,0,none⟩) n cap) xs i oki c)(h0:0≤i)(h1:i<n)(j:Nat):W.frozen? ⟨g,j,none⟩=false:=by
 obtain⟨rows,_,hraw,hcl,hco,hcc,hback⟩:=Kd.H_raw hH h0 h1;obtain⟨cells,hc⟩:=Kd.R_typed hraw g rfl;exact blk_frozen hc j
theorem R_newN{α:Type}{d:Kd α}{e base:Nat}{oki:Nat→Prop}{W W2:World}{v:Value}{xs:List α}(h:d.R e W2 W.heap.size (fun _=>True) v xs)(hb:base≤W.heap.size):d.R e W2 base (fun k=>oki k∨True∧W.heap.size≤k) v xs:=
 Kd.R_lower (Kd.R_mono (Kd.R_bound h) (fun _ hk=> .inr ⟨trivial,hk.2.1⟩)) hb
structure BoxW(w W:World)(gt:Nat)(A:Option Addr)(m c:Nat):Prop where
 blk:W.heap[gt]? =some (.cells #[.slice A m c] 29 (0,0))
 low:Below w.heap.size w W
 ge:w.heap.size≤gt
section
variable {w W W2:World} {gt:Nat} {A:Option Addr} {m c:Nat}
theorem BoxW.below(h:BoxW w W gt A m c)(hb:Below W.heap.size W W2):BoxW w W2 gt A m c:=⟨blk_below h.blk hb,below_step h.low hb,h.ge⟩
theorem BoxW.drewN(h:BoxW w W gt A m c)(k:Nat):BoxW w (W.drewN k) gt A m c:=⟨h.blk,pw_below_drewN h.low k,h.ge⟩
theorem BoxW.cell(h:BoxW w W gt A m c):W.cell? ⟨gt,0,none⟩=some (.slice A m c):=(blk_cell h.blk 0).trans rfl
theorem BoxW.fill(h:BoxW w W gt A m c){gb:Nat}(hb:w.heap.size≤gb)(hne:gb≠gt)(x:S41)(v2 v5:Value):BoxW w (fillN W gb x v2 v5) gt A m c:=
 ⟨blk_far (blk_far (blk_far (blk_far (blk_far (blk_far h.blk (Ne.symm hne) _) (Ne.symm hne) _) (Ne.symm hne) _) (Ne.symm hne) _) (Ne.symm hne) _) (Ne.symm hne) _,fillN_below x v2 v5 h.low hb,h.ge⟩
end
mutual
def spec_TreeOk.l0:Nat→Int→List Bool→Int→List (S41)→Option (Bool)
 |0,_,_,_,_=>none
 |k+1,x3,x4,x5,x102000=>if x5<x3 then(if 0≤x5 then(if x5<(x102000.length:Int)then((spec_l6Node.f k ((rd_T41 x102000 x5).f0) ((rd_T41 x102000 x5).f1) ((rd_T41 x102000 x5).f2) ((rd_T41 x102000 x5).f3) ((rd_T41 x102000 x5).f4) ((rd_T41 x102000 x5).f5)).bind fun t108=>(if t108=true then(if((((rd_T41 x102000 x5).f0)==1) !=(x5==0))=true then(spec_TreeOk.j1 k x3 x4 x5 true x102000 ((rd_T41 x102000 x5).f0) ((rd_T41 x102000 x5).f1) ((rd_T41 x102000 x5).f2) ((rd_T41 x102000 x5).f3) ((rd_T41 x102000 x5).f4) ((rd_T41 x102000 x5).f5))else((spec_l1In.f ((rd_T41 x102000 x5).f4) (-1) (wrap64 (x3- 1))).bind fun t109=>(if t109=true then(if x5=0 then(spec_TreeOk.j1 k x3 x4 x5 (((rd_T41 x102000 x5).f4) !=(-1)) x102000 ((rd_T41 x102000 x5).f0) ((rd_T41 x102000 x5).f1) ((rd_T41 x102000 x5).f2) ((rd_T41 x102000 x5).f3) ((rd_T41 x102000 x5).f4) ((rd_T41 x102000 x5).f5))else(spec_TreeOk.j1 k x3 x4 x5 false x102000 ((rd_T41 x102000 x5).f0) ((rd_T41 x102000 x5).f1) ((rd_T41 x102000 x5).f2) ((rd_T41 x102000 x5).f3) ((rd_T41 x102000 x5).f4) ((rd_T41 x102000 x5).f5)))else(spec_TreeOk.j1 k x3 x4 x5 true x102000 ((rd_T41 x102000 x5).f0) ((rd_T41 x102000 x5).f1) ((rd_T41 x102000 x5).f2) ((rd_T41 x102000 x5).f3) ((rd_T41 x102000 x5).f4) ((rd_T41 x102000 x5).f5)))))else(spec_TreeOk.j1 k x3 x4 x5 true x102000 ((rd_T41 x102000 x5).f0) ((rd_T41 x102000 x5).f1) ((rd_T41 x102000 x5).f2) ((rd_T41 x102000 x5).f3) ((rd_T41 x102000 x5).f4) ((rd_T41 x102000 x5).f5))))else(none))else(none))else(spec_TreeOk.l2 k x3 x4 0 x102000)
def spec_TreeOk.j1:Nat→Int→List Bool→Int→Bool→List (S41)→Int→ByteArray→List (S72)→ByteArray→Int→List Int→Option (Bool)
 |0,_,_,_,_,_,_,_,_,_,_,_=>none
 |k+1,x3,x4,x5,x57,x102000,x108000,x108001,x108002,x108003,x108004,x108005=>if x57=true then(some false)else(spec_TreeOk.l1 k x3 x4 x5 0 x102000 x108000 x108001 x108002 x108003 x108004 x108005)
def spec_TreeOk.l1:Nat→Int→List Bool→Int→Int→List (S41)→Int→ByteArray→List (S72)→ByteArray→Int→List Int→Option (Bool)
 |0,_,_,_,_,_,_,_,_,_,_,_=>none
 |k+1,x3,x4,x5,x7,x102000,x108000,x108001,x108002,x108003,x108004,x108005=>if x7<(x108005.length:Int)then(if 0≤x7 then((spec_l1In.f (rd x108005 x7) 1 (wrap64 (x3- 1))).bind fun t111=>(if t111=true then(if 0≤(rd x108005 x7)then(if(rd x108005 x7)<(x4.length:Int)then(if rdOf false x4 (rd x108005 x7)=true then(some false)else(if(rd x108005 x7)<(x102000.length:Int)then(if((rd_T41 x102000 (rd x108005 x7)).f4)=x5 then(spec_TreeOk.l1 k x3 (x4.set ((rd x108005 x7):Int).toNat true) x5 (wrap64 (x7+1)) x102000 x108000 x108001 x108002 x108003 x108004 x108005)else(some false))else(none)))else(none))else(none))else(some false)))else(none))else(spec_TreeOk.l0 k x3 x4 (wrap64 (x5+1)) x102000)
def spec_TreeOk.l2:Nat→Int→List Bool→Int→List (S41)→Option (Bool)
 |0,_,_,_,_=>none
 |k+1,x3,x4,x9,x102000=>if x9<x3 then(if 0≤x9 then(if x9<(x4.length:Int)then(if x9<(x102000.length:Int)then(if((rdOf false x4 x9) !=(decide (((rd_T41 x102000 x9).f4)≥0)))=true then(some false)else(spec_TreeOk.l3 k x3 x4 x9 x9 0 x102000))else(none))else(none))else(none))else(some true)
def spec_TreeOk.l3:Nat→Int→List Bool→Int→Int→Int→List (S41)→Option (Bool)
 |0,_,_,_,_,_,_=>none
 |k+1,x3,x4,x9,x10,x11,x102000=>if x10≥0 then(if x11>x3 then(some false)else(if 0≤x10 then(if x10<(x102000.length:Int)then(spec_TreeOk.l3 k x3 x4 x9 ((rd_T41 x102000 x10).f4) (wrap64 (x11+1)) x102000)else(none))else(none)))else(spec_TreeOk.l2 k x3 x4 (wrap64 (x9+1)) x102000)
end
def spec_TreeOk.f(k:Nat)(l0_0:List (S41)):Option (Bool):=(spec_l1In.f (l0_0.length:Int) 1 500).bind fun t102=>(if t102=true then(if 0≤(l0_0.length:Int)then(if((l0_0.length:Int):Int).toNat≤281474976710656 then(spec_TreeOk.l0 k (l0_0.length:Int) (List.replicate ((l0_0.length:Int):Int).toNat false) 0 l0_0)else(none))else(none))else(some false))
theorem spec_TreeOk.mono_l: ∀k,(∀y0 y1 y2 y3,LeO (spec_TreeOk.l0 k y0 y1 y2 y3) (spec_TreeOk.l0 (k+1) y0 y1 y2 y3))∧(∀y0 y1 y2 y3 y4 y5 y6 y7 y8 y9 y10,LeO (spec_TreeOk.j1 k y0 y1 y2 y3 y4 y5 y6 y7 y8 y9 y10) (spec_TreeOk.j1 (k+1) y0 y1 y2 y3 y4 y5 y6 y7 y8 y9 y10))∧(∀y0 y1 y2 y3 y4 y5 y6 y7 y8 y9 y10,LeO (spec_TreeOk.l1 k y0 y1 y2 y3 y4 y5 y6 y7 y8 y9 y10) (spec_TreeOk.l1 (k+1) y0 y1 y2 y3 y4 y5 y6 y7 y8 y9 y10))∧(∀y0 y1 y2 y3,LeO (spec_TreeOk.l2 k y0 y1 y2 y3) (spec_TreeOk.l2 (k+1) y0 y1 y2 y3))∧(∀y0 y1 y2 y3 y4 y5,LeO (spec_TreeOk.l3 k y0 y1 y2 y3 y4 y5) (spec_TreeOk.l3 (k+1) y0 y1 y2 y3 y4 y5))
 |0=>⟨fun _ _ _ _ r h=>by simp [spec_TreeOk.l0]at h,fun _ _ _ _ _ _ _ _ _ _ _ r h=>by simp [spec_TreeOk.j1]at h,fun _ _ _ _ _ _ _ _ _ _ _ r h=>by simp [spec_TreeOk.l1]at h,fun _ _ _ _ r h=>by simp [spec_TreeOk.l2]at h,fun _ _ _ _ _ _ r h=>by simp [spec_TreeOk.l3]at h⟩
 |k+1=>by
  obtain⟨ih0,ih1,ih2,ih3,ih4⟩:=spec_TreeOk.mono_l k;refine⟨?_, ?_, ?_, ?_, ?_⟩
  ·intro y0 y1 y2 y3;unfold spec_TreeOk.l0;repeat' first|exact ih1 _ _ _ _ _ _ _ _ _ _ _|exact ih3 _ _ _ _|exact spec_l6Node.mono _ _ _ _ _ _ _|(with_reducible exact LeO.refl _)|refine LeO.ite ?_ ?_|refine LeO.bind ?_ (fun _=> ?_)
  ·intro y0 y1 y2 y3 y4 y5 y6 y7 y8 y9 y10;unfold spec_TreeOk.j1;exact LeO.ite (LeO.refl _) (ih2 _ _ _ _ _ _ _ _ _ _ _)
  ·intro y0 y1 y2 y3 y4 y5 y6 y7 y8 y9 y10;unfold spec_TreeOk.l1;repeat' first|exact ih0 _ _ _ _|exact ih2 _ _ _ _ _ _ _ _ _ _ _|(with_reducible exact LeO.refl _)|refine LeO.ite ?_ ?_|refine LeO.bind ?_ (fun _=> ?_)
  ·intro y0 y1 y2 y3;unfold spec_TreeOk.l2;repeat' first|exact ih4 _ _ _ _ _ _|(with_reducible exact LeO.refl _)|refine LeO.ite ?_ ?_
  ·intro y0 y1 y2 y3 y4 y5;unfold spec_TreeOk.l3;repeat' first|exact ih3 _ _ _ _|exact ih4 _ _ _ _ _ _|(with_reducible exact LeO.refl _)|refine LeO.ite ?_ ?_
theorem spec_TreeOk.mono: ∀a0 k,LeO (spec_TreeOk.f k a0) (spec_TreeOk.f (k+1) a0):=fun a0 k=>LeO.bind (LeO.refl _) (fun _=>LeO.ite (LeO.ite (LeO.ite ((spec_TreeOk.mono_l k).1 _ _ _ _) (LeO.refl _)) (LeO.refl _)) (LeO.refl _))
structure SeenW(w W:World)(gt:Nat)(A:Option Addr)(m c:Nat)(gs cap:Nat)(s:List Bool):Prop where
 box:BoxW w W gt A m c
 row:Kd.R Kd.bool 4 W w.heap.size (fun k=>k=gs) (.slice (some ⟨gs,0,none⟩) m cap) s
 ne:gs≠gt
section
variable {w W W2:World} {gt m c gs cap:Nat} {A:Option Addr} {s:List Bool}
theorem SeenW.below(h:SeenW w W gt A m c gs cap s)(hb:Below W.heap.size W W2):SeenW w W2 gt A m c gs cap s:=⟨h.box.below hb,Kd.R_below h.row hb,h.ne⟩
theorem SeenW.drewN(h:SeenW w W gt A m c gs cap s)(k:Nat):SeenW w (W.drewN k) gt A m c gs cap s:=⟨h.box.drewN k,Kd.R_drewN h.row k,h.ne⟩
theorem SeenW.fill(h:SeenW w W gt A m c gs cap s){gb:Nat}(hb:w.heap.size≤gb)(hne:gb≠gt)(hne2:gb≠gs)(x:S41)(v2 v5:Value):SeenW w (fillN W gb x v2 v5) gt A m c gs cap s:=
 ⟨h.box.fill hb hne x v2 v5,by
  have hf: ∀k,k=gs→k≠gb:=fun k hk=>by omega
  exact Kd.R_far (p:=⟨gb,5,none⟩) (Kd.R_far (p:=⟨gb,4,none⟩) (Kd.R_far (p:=⟨gb,3,none⟩) (Kd.R_far (p:=⟨gb,2,none⟩) (Kd.R_far (p:=⟨gb,1,none⟩) (Kd.R_far (p:=⟨gb,0,none⟩) h.row hf _) hf _) hf _) hf _) hf _) hf _,h.ne⟩
theorem SeenW.put(h:SeenW w W gt A m c gs cap s)(i:Int)(x:Bool):SeenW w (W.setCell ⟨gs,i.toNat,none⟩ (.bool x)) gt A m c gs cap (s.set i.toNat x):=
 ⟨⟨blk_far h.box.blk (p:=⟨gs,i.toNat,none⟩) (Ne.symm h.ne) _,below_set h.box.low (Kd.R_base h.row gs rfl),h.box.ge⟩,Kd.R_putn h.row i x,h.ne⟩
theorem SeenW.at_(h:SeenW w W gt A m c gs cap s)(i:Int)(h0:0≤i)(h1:i<m):W.cell? ⟨gs,i.toNat,none⟩=some (.bool (rdOf false s i))∧W.frozen? ⟨gs,i.toNat,none⟩=false:=Kd.R_celln false h.row i h0 h1
end
theorem spec_TreeOk.calls(k:Nat)(A0_0:Option Addr)(c0_0:Nat)(l0_0:List S41)(r:Bool)(w:World)(hr0_0:Kd.C k41 w A0_0 l0_0.length l0_0)(hc0_0:l0_0.length≤c0_0)(h:spec_TreeOk.f k l0_0=some r):
 Calls Tryz.prog 13 #[.agg #[.slice A0_0 l0_0.length c0_0]] w fun e w'=>e= .returned (.bool r)∧Below w.heap.size w w':=by
 have HC:=Ak hr0_0;clear hr0_0 hc0_0;unfold spec_TreeOk.f at h;obtain⟨t,A1,h⟩:=Ob h;have HN0:=Ak (show t=true→0<l0_0.length from fun e=>by
  subst e;unfold spec_l1In.f at A1;split at A1
  ·omega
  ·cases A1)
 have HN1:=Ak (show t=true→l0_0.length≤500 from fun e=>by
  subst e;unfold spec_l1In.f at A1;split at A1
  ·have:=of_decide_eq_true (Oi A1);omega
  ·cases A1)
 replace A1:=Ak A1;cases t with
 |false=>
  rw[if_neg (by decide)]at h;obtain rfl:=Oi h;clear h HN0 HN1;go_enter Tryz.func13,Tryz.ntmps13;go_wp2_with (first|(go_at_call 27;(with_reducible refine(spec_l1In.calls _ _ _ false _ A1.out).mono ?_);rintro e w' ⟨rfl,⟨nd,rfl⟩⟩));go_ret;exact⟨rfl,by repeat(first|exact Below.refl _ _|apply below_alloc|apply pw_below_drewN)⟩
 |true=>
  rw[if_pos rfl,if_pos (by omega),if_pos (by have:=HN1.out rfl;omega)]at h;have HA:=Ak h;have HM0:=Ak (HN0.out rfl);have HM1:=Ak (HN1.out rfl);clear h HN0 HN1;go_enter Tryz.func13,Tryz.ntmps13;go_wp2_with (first
   |((with_reducible refine gate_dst (N:=1) rfl ?_);refine box_event ?hg (N:=1) ?hd (cs:= #[.slice A0_0 l0_0.length c0_0]) (t:=29) ?hr ?_;(case hd=>rfl);(case hg=>rfl);(case hr=>first|(go_simp;done)|(go_simp;rfl));intro gt hg w1 hbox hb;have HX:=Ak (show BoxW w w1 gt A0_0 l0_0.length c0_0 from⟨hbox,hb,by rw[hg];exact Nat.le_refl _⟩);have hcb:=HX.out.cell;clear hbox hb hg)
   |(go_at_call 27;(with_reducible refine(spec_l1In.calls _ _ _ true _ A1.out).mono ?_);rintro e w' ⟨rfl,⟨nd,rfl⟩⟩;have HX2:=Ak (HX.out.drewN nd);clear HX)
   |((with_reducible refine gate_dst (N:=19) rfl ?_);refine Kd.R_make (w0:=w) Kd.bool w.heap.size 4 rfl (N:=19) rfl 56 _ _ rfl (l0_0.length:Int) rfl rfl Tryz.underlying56 (.bool false) 1 info4 rfl (by decide) (by omega) false (ok:=fun k=>k≠gt) (okp:=fun k=>k≠gt) rfl (fun _ hk=>hk) (fun e_=>by have:=blk_lt HX2.out.blk;omega) (by omega) (by have:=HM1.out;omega) HX2.out.low HX2.out.low.size ?_;intro vs w2 ho hb hg_ hnew_;rw[Int.toNat_natCast]at ho;obtain⟨gs,cap,ev,_,_,_⟩:=Kd.R_form ho (by have:=HM0.out;rw[List.length_replicate];exact this);rw[List.length_replicate]at ev;subst ev;have HS:=Ak (show SeenW w w2 gt A0_0 l0_0.length c0_0 gs cap (List.replicate l0_0.length false)from⟨⟨blk_grown HX2.out.blk hg_ (by simp),hb,HX2.out.ge⟩,Kd.R_mono (Kd.R_tight rfl ho) (fun k_ hk=>by simpa [Value.ownBlock]using hk),Kd.R_away ho (fun k_ hk=>hk)|>fun h_ e_=>h_ (by rw[e_];rfl)⟩);clear ho hb hg_ hnew_ HX2 hcb))
  go_loopg [5] k (fun kq v5 w'=> ∃(i:Int) (s:List Bool),v5= .int .i64 i∧Aside0 (spec_TreeOk.l0 kq (l0_0.length:Int) s i l0_0=some r)∧Aside0 (kq≤k)∧Aside0 (SeenW w w' gt A0_0 l0_0.length c0_0 gs cap s));case atStart=>exact⟨0,_,rfl,(by rw[Int.toNat_natCast]at HA;exact HA),⟨Nat.le_refl _⟩,HS⟩
  case round=>
   clear HA HS;obtain⟨i,s,rfl,HA,HK,HS⟩:=hrel;cases gk with
   |zero=>exact absurd HA.out (by simp [spec_TreeOk.l0])
   |succ k1=>
    have H:=HA.out;clear HA;simp only[spec_TreeOk.l0]at H;by_cases c1:i<(l0_0.length:Int)
    ·rw[if_pos c1]at H;by_cases c2:0≤i
     ·rw[if_pos c2,if_pos c1]at H;have c1b:decide (i<(l0_0.length:Int))=true:=decide_eq_true c1;obtain⟨ad,A_2,c_2,A_5,c_5,e1,hx0,hx1,hx2,hx3,hx4,hx5,hl2,hi2,hl5,hi5⟩:=at_T41 HC.out i c2 c1;subst e1;replace hx0:=pw_cell_below HS.out.box.low hx0;replace hx1:=pw_cell_below HS.out.box.low hx1;replace hx2:=pw_cell_below HS.out.box.low hx2;replace hx3:=pw_cell_below HS.out.box.low hx3;replace hx4:=pw_cell_below HS.out.box.low hx4;replace hx5:=pw_cell_below HS.out.box.low hx5;have hcb:=HS.out.box.cell;have HI2:=Ak hi2;have HI5:=Ak hi5;have HL2:=Ak hl2;have HL5:=Ak hl5;clear hl2 hi2 hl5 hi5;replace c2:=eq_true c2;replace c1:=eq_true c1;go_upto_region 9 with(first|((with_reducible refine gate_dst (N:=6) rfl ?_);refine box_event ?hg (N:=6) ?hd (cs:= #[.int .i64 0, .string (⟨#[]⟩:ByteArray), .slice none 0 0, .string (⟨#[]⟩:ByteArray), .int .i64 0, .slice none 0 0]) (t:=41) ?hr ?_;(case hd=>rfl);(case hg=>rfl);(case hr=>first|(go_simp;done)|(go_simp;rfl));intro gb hg w2 hbox hb;have HNE:=Ak (show gb≠gt by have:=blk_lt HS.out.box.blk;omega);have HNG:=Ak (show gs≠gb by have:=Kd.R_lt HS.out.row gs rfl;omega);have HS2:=Ak (HS.out.below hb);have HGB:=Ak (show w.heap.size≤gb by rw[hg];exact below_size HS.out.box.low);have HBX:=Ak hbox;have hz0:=blk_cell hbox 0;have hz1:=blk_cell hbox 1;have hz2:=blk_cell hbox 2;have hz3:=blk_cell hbox 3;have hz4:=blk_cell hbox 4;have hz5:=blk_cell hbox 5;have hf:=blk_frozen hbox;clear hbox hb hg HS))
      have HB6:=Ak (fillN_blk (rd_T41 l0_0 i) (.slice A_2 (rd_T41 l0_0 i).f2.length c_2) (.slice A_5 (rd_T41 l0_0 i).f5.length c_5) HBX.out);have HS:=Ak (HS2.out.fill HGB.out HNE.out (Ne.symm HNG.out) (rd_T41 l0_0 i) (.slice A_2 (rd_T41 l0_0 i).f2.length c_2) (.slice A_5 (rd_T41 l0_0 i).f5.length c_5));show Code.wp _ _ _ _ (fillN w2 gb (rd_T41 l0_0 i) (.slice A_2 (rd_T41 l0_0 i).f2.length c_2) (.slice A_5 (rd_T41 l0_0 i).f5.length c_5))
      generalize fillN w2 gb (rd_T41 l0_0 i) (.slice A_2 (rd_T41 l0_0 i).f2.length c_2) (.slice A_5 (rd_T41 l0_0 i).f5.length c_5)=w3 at HB6 HS⊢;clear hz0 hz1 hz2 hz3 hz4 hz5 hf HBX HS2 hx0 hx1 hx2 hx3 hx4 hx5 HNE HGB hcb;have hz0:=blk_cell HB6.out 0;have hz1:=blk_cell HB6.out 1;have hz2:=blk_cell HB6.out 2;have hz3:=blk_cell HB6.out 3;have hz4:=blk_cell HB6.out 4;have hz5:=blk_cell HB6.out 5;have HJ2:=Ak (Kd.C_below HI2.out HS.out.box.low);have HJ5:=Ak (Kd.C_below HI5.out HS.out.box.low);have HH:=Ak H;clear H;go_cut [57] (fun v57 wc=> ∃(kq:Nat) (b:Bool),v57= .bool b∧Aside0 (spec_TreeOk.j1 kq (l0_0.length:Int) s i b l0_0 (rd_T41 l0_0 i).f0 (rd_T41 l0_0 i).f1 (rd_T41 l0_0 i).f2 (rd_T41 l0_0 i).f3 (rd_T41 l0_0 i).f4 (rd_T41 l0_0 i).f5=some r)∧Aside0 (kq≤k1)∧Aside0 (SeenW w wc gt (some ad) l0_0.length c0_0 gs cap s)∧Aside0 (wc.heap[gb]? =some (.cells #[.int .i64 (rd_T41 l0_0 i).f0, .string (rd_T41 l0_0 i).f1,(.slice A_2 (rd_T41 l0_0 i).f2.length c_2), .string (rd_T41 l0_0 i).f3, .int .i64 (rd_T41 l0_0 i).f4,(.slice A_5 (rd_T41 l0_0 i).f5.length c_5)] 41 (0,0))));case first=>
       have H:=HH.out;clear HH;obtain⟨t,A2,H⟩:=Ob H;replace A2:=Ak A2;cases t with
       |false=>
        rw[if_neg (by decide)]at H;have HA:=Ak H;clear H;go_wp2_with (first|(go_at_call 28;(with_reducible refine(spec_l6Node.calls k1 _ _ _ _ _ _ _ _ _ _ false _ HJ2.out HL2.out HJ5.out HL5.out A2.out).mono ?_);rintro e w4 ⟨rfl,hb⟩;have HS4:=Ak (HS.out.below hb);have HB4:=Ak (blk_below HB6.out hb);have hy0:=blk_cell HB4.out 0;have hy4:=blk_cell HB4.out 4;clear hb));go_meet;case rel=>exact⟨_,true,rfl,HA,⟨by have:=HK.out;omega⟩,HS4,HB4⟩
       |true=>
        rw[if_pos rfl]at H;by_cases c3:(((rd_T41 l0_0 i).f0==1) !=(i==0))=true
        ·rw[if_pos c3]at H;have c3b1:decide (((rd_T41 l0_0 i).f0==1)=(i==0))=false:=by simpa using c3
         have c3b2:(((rd_T41 l0_0 i).f0==1)==(i==0))=false:=by simpa using c3
         have c3b3: ¬(((rd_T41 l0_0 i).f0==1)=(i==0)):=by simpa using c3
         have HA:=Ak H;clear H;go_wp2_with (first|(go_at_call 28;(with_reducible refine(spec_l6Node.calls k1 _ _ _ _ _ _ _ _ _ _ true _ HJ2.out HL2.out HJ5.out HL5.out A2.out).mono ?_);rintro e w4 ⟨rfl,hb⟩;have HS4:=Ak (HS.out.below hb);have HB4:=Ak (blk_below HB6.out hb);have hy0:=blk_cell HB4.out 0;have hy4:=blk_cell HB4.out 4;clear hb));go_meet;case rel=>exact⟨_,true,rfl,HA,⟨by have:=HK.out;omega⟩,HS4,HB4⟩
        ·rw[if_neg c3]at H;obtain⟨u,A3,H⟩:=Ob H;replace A3:=Ak A3;cases u with
         |false=>
          rw[if_neg (by decide)]at H;have c3b:(((rd_T41 l0_0 i).f0==1) !=(i==0))=false:=Bool.eq_false_iff.mpr c3;have c3b1:decide (((rd_T41 l0_0 i).f0==1)=(i==0))=true:=by simpa using c3
          have c3b2:(((rd_T41 l0_0 i).f0==1)==(i==0))=true:=by simpa using c3
          clear c3;have HA:=Ak H;clear H;go_wp2_with (first|(go_at_call 28;(with_reducible refine(spec_l6Node.calls k1 _ _ _ _ _ _ _ _ _ _ true _ HJ2.out HL2.out HJ5.out HL5.out A2.out).mono ?_);rintro e w4 ⟨rfl,hb⟩;have HS4:=Ak (HS.out.below hb);have HB4:=Ak (blk_below HB6.out hb);have hy0:=blk_cell HB4.out 0;have hy4:=blk_cell HB4.out 4;clear hb)|(go_at_call 27;(with_reducible refine(spec_l1In.calls _ _ _ false _ A3.out).mono ?_);rintro e w5 ⟨rfl,⟨nd,rfl⟩⟩;(try first|exact⟨rfl,_,World.drewN_drewN _ _ _⟩|exact⟨rfl,_,Eq.trans (World.drewN_drewN _ _ _) (congrArg (World.drewN _) (Nat.add_assoc _ _ _))⟩)));go_meet;case rel=>exact⟨_,true,rfl,HA,⟨by have:=HK.out;omega⟩,⟨SeenW.drewN HS4.out _⟩,HB4⟩
         |true=>
          rw[if_pos rfl]at H;by_cases c4:i=0
          ·rw[if_pos c4]at H;have c3c:((rd_T41 l0_0 i).f0==1)=true:=by have:=Bool.eq_false_iff.mpr c3;rw[beq_iff_eq.mpr c4]at this;simpa using this
           have c4b:(i==0)=true:=beq_iff_eq.mpr c4;clear c3 c4;have HA:=Ak H;clear H;go_wp2_with (first|(go_at_call 28;(with_reducible refine(spec_l6Node.calls k1 _ _ _ _ _ _ _ _ _ _ true _ HJ2.out HL2.out HJ5.out HL5.out A2.out).mono ?_);rintro e w4 ⟨rfl,hb⟩;have HS4:=Ak (HS.out.below hb);have HB4:=Ak (blk_below HB6.out hb);have hy0:=blk_cell HB4.out 0;have hy4:=blk_cell HB4.out 4;clear hb)|(go_at_call 27;(with_reducible refine(spec_l1In.calls _ _ _ true _ A3.out).mono ?_);rintro e w5 ⟨rfl,⟨nd,rfl⟩⟩;(try first|exact⟨rfl,_,World.drewN_drewN _ _ _⟩|exact⟨rfl,_,Eq.trans (World.drewN_drewN _ _ _) (congrArg (World.drewN _) (Nat.add_assoc _ _ _))⟩)));go_meet;case rel=>exact⟨_,((rd_T41 l0_0 i).f4 != -1),rfl,HA,⟨by have:=HK.out;omega⟩,⟨SeenW.drewN HS4.out _⟩,HB4⟩
          ·rw[if_neg c4]at H;have c3c:((rd_T41 l0_0 i).f0==1)=false:=by have:=Bool.eq_false_iff.mpr c3;rw[beq_eq_false_iff_ne.mpr c4]at this;simpa using this
           have c4b:(i==0)=false:=beq_eq_false_iff_ne.mpr c4;clear c3 c4;have HA:=Ak H;clear H;go_wp2_with (first|(go_at_call 28;(with_reducible refine(spec_l6Node.calls k1 _ _ _ _ _ _ _ _ _ _ true _ HJ2.out HL2.out HJ5.out HL5.out A2.out).mono ?_);rintro e w4 ⟨rfl,hb⟩;have HS4:=Ak (HS.out.below hb);have HB4:=Ak (blk_below HB6.out hb);have hy0:=blk_cell HB4.out 0;have hy4:=blk_cell HB4.out 4;clear hb)|(go_at_call 27;(with_reducible refine(spec_l1In.calls _ _ _ true _ A3.out).mono ?_);rintro e w5 ⟨rfl,⟨nd,rfl⟩⟩;(try first|exact⟨rfl,_,World.drewN_drewN _ _ _⟩|exact⟨rfl,_,Eq.trans (World.drewN_drewN _ _ _) (congrArg (World.drewN _) (Nat.add_assoc _ _ _))⟩)));go_meet;case rel=>exact⟨_,false,rfl,HA,⟨by have:=HK.out;omega⟩,⟨SeenW.drewN HS4.out _⟩,HB4⟩
      case rest=>
       obtain⟨kq,b,rfl,HA,HJ,HS,HB6⟩:=hcut;clear hz0 hz1 hz2 hz3 hz4 HJ2 HJ5 HH c1b;cases kq with
       |zero=>exact absurd HA.out (by simp [spec_TreeOk.j1])
       |succ kj=>
        have H:=HA.out;clear HA;simp only[spec_TreeOk.j1]at H;cases b with
        |true=>
         rw[if_pos (by trivial)]at H;obtain rfl:=Oi H;clear H;go_wp2;go_ret;exact⟨rfl,HS.out.box.low⟩
        |false=>
         rw[if_neg (by decide)]at H;have HA:=Ak H;clear H;have HG5:=Ak HB6.out;go_wp2;go_loopg [7] kj (fun kq v7 w'=> ∃(j:Int) (s:List Bool),v7= .int .i64 j∧Aside0 (spec_TreeOk.l1 kq (l0_0.length:Int) s i j l0_0 (rd_T41 l0_0 i).f0 (rd_T41 l0_0 i).f1 (rd_T41 l0_0 i).f2 (rd_T41 l0_0 i).f3 (rd_T41 l0_0 i).f4 (rd_T41 l0_0 i).f5=some r)∧Aside0 (kq≤kj)∧Aside0 (SeenW w w' gt (some ad) l0_0.length c0_0 gs cap s)∧Aside0 (w'.heap[gb]? =some (.cells #[.int .i64 (rd_T41 l0_0 i).f0, .string (rd_T41 l0_0 i).f1,(.slice A_2 (rd_T41 l0_0 i).f2.length c_2), .string (rd_T41 l0_0 i).f3, .int .i64 (rd_T41 l0_0 i).f4,(.slice A_5 (rd_T41 l0_0 i).f5.length c_5)] 41 (0,0))));case atStart=>exact⟨0,_,rfl,HA,⟨Nat.le_refl _⟩,HS,HB6⟩
         case round=>
          clear HA HS HB6 hz5 HG5;obtain⟨j,s,rfl,HA,HK2,HS,HB6⟩:=hrel;cases gk with
          |zero=>exact absurd HA.out (by simp [spec_TreeOk.l1])
          |succ k2=>
           have H:=HA.out;clear HA;simp only[spec_TreeOk.l1]at H;have hz5:=blk_cell HB6.out 5;have hcb:=HS.out.box.cell;by_cases c3:j<((rd_T41 l0_0 i).f5.length:Int)
           ·rw[if_pos c3]at H;by_cases c4:0≤j
            ·rw[if_pos c4]at H;obtain⟨t,A3,H⟩:=Ob H;replace A3:=Ak A3;obtain⟨ak,e2,hy0⟩:=Kd.at_int HI5.out j c4 c3;subst e2;replace hy0:=pw_cell_below HS.out.box.low hy0;have c3b:decide (j<((rd_T41 l0_0 i).f5.length:Int))=true:=decide_eq_true c3;replace c3:=eq_true c3;replace c4:=eq_true c4;obtain⟨kid,hkid⟩: ∃q:Int,q=rd (rd_T41 l0_0 i).f5 j:=⟨_,rfl⟩
             rw[←hkid]at hy0 H A3;clear hkid;cases t with
             |false=>
              rw[if_neg (by decide)]at H;obtain rfl:=Oi H;clear H;go_wp2_with (first|(go_at_call 27;(with_reducible refine(spec_l1In.calls _ _ _ false _ A3.out).mono ?_);rintro e w5 ⟨rfl,⟨nd,rfl⟩⟩));go_ret;exact⟨rfl,pw_below_drewN HS.out.box.low _⟩
             |true=>
              rw[if_pos rfl]at H;by_cases c5:0≤kid
              ·rw[if_pos c5]at H;by_cases c6':kid<(s.length:Int)
               ·rw[if_pos c6']at H;have c6:kid<(l0_0.length:Int):=by have:=(Kd.R_reads' HS.out.row).1;omega
                clear c6';obtain⟨hs,hsf⟩:=HS.out.at_ kid c5 c6;by_cases c8:rdOf false s kid=true
                ·rw[if_pos c8]at H;obtain rfl:=Oi H;clear H;rw[c8]at hs;clear c8;replace c5:=eq_true c5;replace c6:=eq_true c6;go_wp2_with (first|(go_at_call 27;(with_reducible refine(spec_l1In.calls _ _ _ true _ A3.out).mono ?_);rintro e w5 ⟨rfl,⟨nd,rfl⟩⟩));go_ret;exact⟨rfl,pw_below_drewN HS.out.box.low _⟩
                ·rw[if_neg c8,if_pos c6]at H;rw[Bool.eq_false_iff.mpr c8]at hs;clear c8;obtain⟨ad',A_6,c_6,A_7,c_7,e3,hw0,hw1,hw2,hw3,hw4,hw5,hl6,hi6,hl7,hi7⟩:=at_T41 HC.out kid c5 c6;injection e3 with e3
                 subst e3;replace hw4:=pw_cell_below HS.out.box.low hw4;clear hw0 hw1 hw2 hw3 hw5 hl6 hi6 hl7 hi7;replace c5:=eq_true c5;replace c6:=eq_true c6;by_cases c7:(rd_T41 l0_0 kid).f4=i
                 ·rw[if_pos c7]at H;have HA:=Ak H;clear H;have c7b:((rd_T41 l0_0 kid).f4==i)=true:=beq_iff_eq.mpr c7;have c7c:((rd_T41 l0_0 kid).f4 !=i)=false:=bne_eq_false_iff_eq.mpr c7;clear c7;go_wp2_with (first|(go_at_call 27;(with_reducible refine(spec_l1In.calls _ _ _ true _ A3.out).mono ?_);rintro e w5 ⟨rfl,⟨nd,rfl⟩⟩));go_roundg k2;case measure=>have:=HK.out;have:=HJ.out;have:=HK2.out;omega
                  case rel=>exact⟨_,_,rfl,HA,⟨by have:=HK2.out;omega⟩,⟨SeenW.put (SeenW.drewN HS.out _) kid true⟩,⟨blk_far (p:=⟨gs,kid.toNat,none⟩) HB6.out (Ne.symm (HNG.out)) _⟩⟩
                 ·rw[if_neg c7]at H;obtain rfl:=Oi H;clear H;have c7b:((rd_T41 l0_0 kid).f4==i)=false:=beq_eq_false_iff_ne.mpr c7;have c7c:((rd_T41 l0_0 kid).f4 !=i)=true:=bne_iff_ne.mpr c7;clear c7;go_wp2_with (first|(go_at_call 27;(with_reducible refine(spec_l1In.calls _ _ _ true _ A3.out).mono ?_);rintro e w5 ⟨rfl,⟨nd,rfl⟩⟩));go_ret;exact⟨rfl,pw_below_drewN HS.out.box.low _⟩
               ·rw[if_neg c6']at H;cases H
              ·rw[if_neg c5]at H;cases H
            ·rw[if_neg c4]at H;cases H
           ·rw[if_neg c3]at H;have HA:=Ak H;clear H;have c3b:decide (j<((rd_T41 l0_0 i).f5.length:Int))=false:=decide_eq_false c3;clear c3;go_wp2;go_roundg k2;case measure=>have:=HK.out;have:=HJ.out;have:=HK2.out;omega
            case rel=>exact⟨_,_,rfl,HA,⟨by have:=HK.out;have:=HJ.out;have:=HK2.out;omega⟩,HS⟩
     ·rw[if_neg c2]at H;cases H
    ·rw[if_neg c1]at H;have HA:=Ak H;clear H;have c1b:decide (i<(l0_0.length:Int))=false:=decide_eq_false c1;clear c1;go_wp2;go_loopg [9] k1 (fun kq v9 w'=> ∃(i:Int),v9= .int .i64 i∧Aside0 (spec_TreeOk.l2 kq (l0_0.length:Int) s i l0_0=some r)∧Aside0 (kq≤k1)∧Aside0 (SeenW w w' gt A0_0 l0_0.length c0_0 gs cap s));case atStart=>exact⟨0,rfl,HA,⟨Nat.le_refl _⟩,HS⟩
     case round=>
      clear HA HS c1b;obtain⟨i,rfl,HA,HK2,HS⟩:=hrel;cases gk with
      |zero=>exact absurd HA.out (by simp [spec_TreeOk.l2])
      |succ k2=>
       have H:=HA.out;clear HA;simp only[spec_TreeOk.l2]at H;by_cases c1:i<(l0_0.length:Int)
       ·rw[if_pos c1]at H;by_cases c2:0≤i
        ·rw[if_pos c2]at H;by_cases c2':i<(s.length:Int)
         ·rw[if_pos c2',if_pos c1]at H;clear c2';have c1b:decide (i<(l0_0.length:Int))=true:=decide_eq_true c1;have hcb:=HS.out.box.cell;obtain⟨hs,hsf⟩:=HS.out.at_ i c2 c1;obtain⟨ad,A_2,c_2,A_5,c_5,e1,hx0,hx1,hx2,hx3,hx4,hx5,hl2,hi2,hl5,hi5⟩:=at_T41 HC.out i c2 c1;subst e1;replace hx4:=pw_cell_below HS.out.box.low hx4;clear hx0 hx1 hx2 hx3 hx5 hl2 hi2 hl5 hi5;replace c2:=eq_true c2;replace c1:=eq_true c1;by_cases c3:(rdOf false s i !=decide ((rd_T41 l0_0 i).f4≥0))=true
          ·rw[if_pos c3]at H;obtain rfl:=Oi H;clear H;have c3b1:decide (rdOf false s i=decide (0≤(rd_T41 l0_0 i).f4))=false:=by simpa using c3
           have c3b2:(rdOf false s i==decide (0≤(rd_T41 l0_0 i).f4))=false:=by simpa using c3
           have c3b3: ¬(rdOf false s i=decide (0≤(rd_T41 l0_0 i).f4)):=by simpa using c3
           have c3b4:(rdOf false s i !=decide (0≤(rd_T41 l0_0 i).f4))=true:=c3;clear c3;go_wp2;go_quiet (fail);try go_wp2
           go_ret;exact⟨rfl,pw_below_drewN HS.out.box.low _⟩
          ·rw[if_neg c3]at H;have HA:=Ak H;clear H;have c3b1:decide (rdOf false s i=decide (0≤(rd_T41 l0_0 i).f4))=true:=by simpa using c3
           have c3b2:(rdOf false s i==decide (0≤(rd_T41 l0_0 i).f4))=true:=by simpa using c3
           have c3b4:(rdOf false s i !=decide (0≤(rd_T41 l0_0 i).f4))=false:=Bool.eq_false_iff.mpr c3;clear c3;go_wp2;go_quiet (fail);try go_wp2
           go_loopg [10,11] k2 (fun kq v10 v11 w'=> ∃(u:Int) (q:Int),v10= .int .i64 u∧v11= .int .i64 q∧Aside0 (spec_TreeOk.l3 kq (l0_0.length:Int) s i u q l0_0=some r)∧Aside0 (kq≤k2)∧Aside0 (SeenW w w' gt (some ad) l0_0.length c0_0 gs cap s));case atStart=>exact⟨_,0,rfl,rfl,HA,⟨Nat.le_refl _⟩,⟨SeenW.drewN HS.out _⟩⟩
           case round=>
            clear HA HS hs hsf hcb c1b c3b1 c3b2 c3b4 hx4;obtain⟨u,q,rfl,rfl,HA,HK3,HS⟩:=hrel;cases gk with
            |zero=>exact absurd HA.out (by simp [spec_TreeOk.l3])
            |succ k3=>
             have H:=HA.out;clear HA;simp only[spec_TreeOk.l3]at H;have hcb:=HS.out.box.cell;by_cases c4:u≥0
             ·rw[if_pos c4]at H;have c4b:decide (0≤u)=true:=decide_eq_true c4;by_cases c5:q>(l0_0.length:Int)
              ·rw[if_pos c5]at H;obtain rfl:=Oi H;clear H;have c5b:decide ((l0_0.length:Int)<q)=true:=decide_eq_true c5;clear c4 c5;go_wp2;go_ret;exact⟨rfl,HS.out.box.low⟩
              ·rw[if_neg c5]at H;have c5b:decide ((l0_0.length:Int)<q)=false:=decide_eq_false c5;rw[if_pos c4]at H;by_cases c6:u<(l0_0.length:Int)
               ·rw[if_pos c6]at H;have HA:=Ak H;clear H;obtain⟨ad',A_6,c_6,A_7,c_7,e3,hw0,hw1,hw2,hw3,hw4,hw5,hl6,hi6,hl7,hi7⟩:=at_T41 HC.out u c4 c6;injection e3 with e3
                subst e3;replace hw4:=pw_cell_below HS.out.box.low hw4;clear hw0 hw1 hw2 hw3 hw5 hl6 hi6 hl7 hi7 c5;have c4':(0≤u)=True:=eq_true c4;clear c4;replace c6:=eq_true c6;go_wp2;go_roundg k3;case measure=>have:=HK.out;have:=HK2.out;have:=HK3.out;omega
                case rel=>exact⟨_,_,rfl,rfl,HA,⟨by have:=HK3.out;omega⟩,HS⟩
               ·rw[if_neg c6]at H;cases H
             ·rw[if_neg c4]at H;have HA:=Ak H;clear H;have c4b:decide (0≤u)=false:=decide_eq_false c4;clear c4;go_wp2;go_roundg k3;case measure=>have:=HK.out;have:=HK2.out;have:=HK3.out;omega
              case rel=>exact⟨_,rfl,HA,⟨by have:=HK2.out;have:=HK3.out;omega⟩,HS⟩
         ·rw[if_neg c2']at H;cases H
        ·rw[if_neg c2]at H;cases H
       ·rw[if_neg c1]at H;obtain rfl:=Oi H;clear H;have c1b:decide (i<(l0_0.length:Int))=false:=decide_eq_false c1;clear c1;go_wp2;go_ret;exact⟨rfl,HS.out.box.low⟩
end Go.Proofs.YtlnmmcipioagaaaGreatDoor.X
