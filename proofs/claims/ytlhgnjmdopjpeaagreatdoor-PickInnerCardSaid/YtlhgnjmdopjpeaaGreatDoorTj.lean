/- Contracts: valid: a state's blocks, an event, a transition. Conditions: sizes. The library's contracts of the shelf, laid at this dump by the kit's tools. Conditions: each one's own. Contracts: slices.Clone, Sort and Compact on texts. Conditions: sizes. -/
import Derived.Test.YtlhgnjmdopjpeaaGreatDoorTh
import Derived.Shelf.Lays
import Derived.Shelf.Sort.Plain
import Derived.Shelf.Slices.In.SortNone
import Derived.Shelf.Slices.CompactS
import Derived.Test.YtlhgnjmdopjpeaaGreatDoorProg
namespace Go.Proofs.YtlhgnjmdopjpeaaGreatDoor
open Go Go.Ev
set_option maxRecDepth 100000
def H6:Cfg:=⟨aU,[BR,oN]⟩
theorem H7:ag Tryz.prog H6.tab:=(ag.cons Es (ag.cons qy ag.nil))
variable(c:Chart)(i:Nat)(l:List Str)(s:Str)(t:Tran)
def dx(s:Ev.Stat):Int :=
 if(bg s.kind&&decide (IntKind.wrap .i64 ((s.entry.length:Int)+(s.leave.length:Int))>0)||s.kind==4&&decide ((s.leave.length:Int)>0))=true then 1
 else if(cE c.events c.vars s.entry != 0)=true then cE c.events c.vars s.entry else cE c.events c.vars s.leave
theorem Oi(hi:i<c.states.length):ah Tryz.prog 158 [.e .chart c,.i (i:Int)] [] (.x (.i (dx c (ETy.get .stat c.states i)))) []:=by
 refine dg H7 Tryz.func158 (let x1:=(ETy.get .stat c.states i);let x2:=(↑((Stat.leave x1).length):Int);.need (inRg i c.states.length) (.ite (bg (Stat.kind x1)&&decide (IntKind.wrap .i64 ((↑((Stat.entry x1).length):Int)+x2)>(0:Int))||Stat.kind x1==(4:Int)&&decide (x2>0)) (.ret (.i 1) []) (.ite (cE c.events c.vars (Stat.entry x1) != (0:Int)) (.ret (.i (cE c.events c.vars (Stat.entry x1))) []) (.ret (.i (cE c.events c.vars (Stat.leave x1))) [])))) fun Γ=>?_
 conv=>zeta
 refine⟨⟨by omega,by omega⟩,?_⟩
 generalize ETy.get .stat c.states i=s
 refine⟨fun h=>?_,fun h=>⟨fun h2=>?_,fun h2=>?_⟩⟩
 ·unfold dx;rw[if_pos h];exact⟨rfl,rfl⟩
 ·unfold dx;rw[if_neg (by rw[h];decide),if_pos h2];exact⟨rfl,rfl⟩
 ·unfold dx;rw[if_neg (by rw[h];decide),if_neg (by rw[h2];decide)];exact⟨rfl,rfl⟩
theorem KL(i:Int)(h:0≤i∧i<(c.states.length:Int)):ah Tryz.prog 158 [.e .chart c,.i i] [] (.x (.i (dx c (ETy.get .stat c.states i.toNat)))) []:=by
 obtain⟨k,rfl⟩:=aA h.1
 rw[ai]
 exact Oi c k (by omega)
def Aw:Ent:=(158,fun
 |[.agg [.pd (.str a),.pd (.lst .str b),.pd (.lst .var c),.pd (.lst .stat d),.pd (.lst .tran e)],.c (.pd (.int .i64 i))],[]=>some (some (0≤i∧i<(d.length:Int)),.x (.c (.pd (.int .i64 (dx ⟨a,b,c,d,e⟩ (ETy.get .stat d i.toNat))))),[])
 |_,_=>none)
theorem L4:EntOk Tryz.prog Aw:=entOk fun vs ck=>by
 unfold Aw;dsimp only;split
 ·rename_i a b c d e i;exact entS fun hp=>KL ⟨a,b,c,d,e⟩ i hp
 ·exact entN
def Ot:Cfg:=⟨aU,[eSc,mT,Bz]⟩
theorem Lf:ag Tryz.prog Ot.tab:=(ag.cons uW (ag.cons nH (ag.cons El ag.nil)))
def qE:Str:=[101,114,114,111,114]
def gi:Str:=[100,111,110,101,46]
def jf:Bool :=
 if(s==[]||s==qE||c.events.any (fun x=>s==x))=true then true
 else eR s gi&&decide (aF c.states (eP s gi)≥0)&&((ETy.get .stat c.states (aF c.states (eP s gi)).toNat).kind==2||(ETy.get .stat c.states (aF c.states (eP s gi)).toNat).kind==3)
theorem HM{b:Bool}{i:Int}(h:(b&&decide (i≥0))=true):0≤i:=by
 rw[af]at h;exact of_decide_eq_true h.2
theorem Cq{l:List Ev.Stat}{n:Str}(h:0≤aF l n):0≤aF l n∧aF l n<(l.length:Int):=by
 rcases k8 l n with e |e
 ·omega
 ·exact e
theorem D4:ah Tryz.prog 214 [.e .chart c,.s s] [] (.x (.b (jf c s))) []:=by
 refine dg Lf Tryz.func214 (let x1:=[(100:UInt8),111,110,101,46];let x2:=(ETy.get .stat c.states ((aF c.states (eP s x1)).toNat));let x3:=(aF c.states (eP s x1)≥(0:Int));.ite (s==[]||s==[101,114,114,111,114]||List.any c.events fun x=>s==x) (.ret (.p (.bool true)) []) (.need ((eR s x1&&decide x3)=true→(0:Int)≤aF c.states (eP s x1)∧aF c.states (eP s x1)<(c.states.length:Int)) (.need ((eR s x1&&decide x3)=true∧(Stat.kind x2==(2:Int))=false→(0:Int)≤aF c.states (eP s x1)∧aF c.states (eP s x1)<(c.states.length:Int)) (.ret (.p (.bool (eR s x1&&decide x3&&(Stat.kind x2==(2:Int)||Stat.kind x2==(3:Int))))) [])))) fun Γ=>?_
 conv=>zeta
 refine⟨fun h=>?_,fun h=>⟨fun h1=>Cq (HM h1),fun h1=>Cq (HM h1.1),?_⟩⟩
 · have h':(s==[]||s==qE||c.events.any fun x=>s==x)=true:=h
   unfold jf;rw[if_pos h'];exact⟨rfl,rfl⟩
 · have h':(s==[]||s==qE||c.events.any fun x=>s==x)=false:=h
   unfold jf;rw[if_neg (by rw[h'];decide)];exact⟨rfl,rfl⟩
def Gh:Ent:=(214,fun
 |[.agg [.pd (.str a),.pd (.lst .str b),.pd (.lst .var c),.pd (.lst .stat d),.pd (.lst .tran e)],.c (.pd (.str s))],[]=>some (none,.x (.c (.pd (.bool (jf ⟨a,b,c,d,e⟩ s)))),[])
 |_,_=>none)
theorem PM:EntOk Tryz.prog Gh:=entOk fun vs ck=>by
 unfold Gh;dsimp only;split
 ·rename_i a b c d e s;exact entS fun hp=>D4 ⟨a,b,c,d,e⟩ s
 ·exact entN
def OK:Cfg:=⟨aU,[BR,mT,oE,eOf,Gh]⟩
theorem Lw:ag Tryz.prog OK.tab:=(ag.cons Es (ag.cons nH (ag.cons uA (ag.cons I8 (ag.cons PM ag.nil)))))
def fI:Int :=
 if(!(t.dst==[]))=true then(if decide (aF c.states t.dst<0)=true then 2
  else if decide (dh c.states t.src (aF c.states t.dst)<0)=true then 9 else cE c.events c.vars t.acts)
 else cE c.events c.vars t.acts
def gA:Bool :=
 decide (t.src<0)||decide (t.src≥(c.states.length:Int))||decide ((i:Int)>0)&&decide (t.src<(ETy.get .tran c.trans (IntKind.wrap .i64 ((i:Int) - 1)).toNat).src)||decide ((ETy.get .stat c.states t.src.toNat).kind>3)
def dk(real:List Str)(t:Tran):Int :=
 if gA c i t=true then 1
 else if(!jf c t.event)=true then 2
 else if decide ((t.guard.length:Int)>0)=true then
  (if((cm t.guard c.vars real).2 != 0)=true then(cm t.guard c.vars real).2
   else if((cm t.guard c.vars real).1 != 2)=true then 8 else fI c t)
 else fI c t
theorem Q8(hi:i<c.trans.length)(hl:c.states.length≤maxLen)(ht:c.trans.length≤maxLen):ah Tryz.prog 160 [.e .chart c,.i (i:Int),.l .str l] [] (.x (.i (dk c i l (ETy.get .tran c.trans i)))) []:=by
 refine dg Lw Tryz.func160 (let x1:=(ETy.get .tran c.trans i);let x7:Tree:=(.ret (.i (cE c.events c.vars (Tran.acts x1))) []);let x2:Tree:=(.ite (!Tran.dst x1==[]) (.ite (decide (aF c.states (Tran.dst x1)<(0:Int))) (.ret (.i 2) []) (.need (c.states.length≤maxLen) (.ite (decide (dh c.states (Tran.src x1) (aF c.states (Tran.dst x1))<(0:Int))) (.ret (.i 9) []) x7))) x7);let x3:=(Tran.src x1<Tran.src (ETy.get .tran c.trans ((IntKind.wrap .i64 ((i:Int) - 1)).toNat)));let x4:=(Tran.src x1≥(c.states.length:Int));let x5:=(cm (Tran.guard x1) c.vars l);let x6:=(Tran.src x1<(0:Int));.need (inRg i c.trans.length) (.need ((((14,30,true,gk true (decide ((i:Int)>0)) (some (11,27,false,gk false (decide x6||decide x4) none))).2).2).2→(0:Int)≤IntKind.wrap .i64 ((i:Int) - 1)∧IntKind.wrap .i64 ((i:Int) - 1)<(c.trans.length:Int)) (.need ((((27,43,false,gk false (decide x6||decide x4||decide ((i:Int)>0)&&decide x3) none).2).2).2→(0:Int)≤Tran.src x1∧Tran.src x1<(c.states.length:Int)) (.ite (decide x6||decide x4||decide ((i:Int)>0)&&decide x3||decide (Stat.kind (ETy.get .stat c.states ((Tran.src x1).toNat))>(3:Int))) (.ret (.i 1) []) (.ite (!jf c (Tran.event x1)) (.ret (.i 2) []) (.ite (decide ((↑((Tran.guard x1).length):Int)>0)) (.ite (x5.2 != (0:Int)) (.ret (.i (x5.2)) []) (.ite (x5.1 != (2:Int)) (.ret (.i 8) []) x2)) x2)))))) fun Γ=>?_
 conv=>zeta
 refine⟨⟨by omega,by omega⟩,fun h=>?_,?_⟩
 · have h1:decide ((i:Int)>0)=true:=h.2
   have:=of_decide_eq_true h1
   have hm:maxLen≤9223372036854775807:=by decide
   rw[cg (by omega) (by omega)];omega
 generalize ETy.get .tran c.trans i=t
 have no:∀{b:Bool},b=false→¬b=true:=fun h e=>by rw[h]at e;cases e
 refine⟨fun h=>?_,fun h1=>?_,fun h1=>⟨fun h2=>?_,fun h2=>⟨fun h3=>⟨fun h4=>?_,fun h4=>⟨fun h5=>?_,fun h5=>⟨fun h6=>⟨fun h7=>?_,fun h7=>⟨hl,fun h8=>?_,fun h8=>?_⟩⟩,fun h6=>?_⟩⟩⟩,fun h3=>⟨fun h6=>⟨fun h7=>?_,fun h7=>⟨hl,fun h8=>?_,fun h8=>?_⟩⟩,fun h6=>?_⟩⟩⟩⟩
 · have h1:(decide (t.src<0)||decide (t.src≥(c.states.length:Int))||decide ((i:Int)>0)&&decide (t.src<(ETy.get .tran c.trans (IntKind.wrap .i64 ((i:Int) - 1)).toNat).src))=false:=h
   rw[al,al]at h1
   have:=of_decide_eq_false h1.1.1
   have:=of_decide_eq_false h1.1.2
   omega
 · have hb:gA c i t=true:=h1
   unfold dk;rw[if_pos hb];exact⟨rfl,rfl⟩
 all_goals
  have hb:gA c i t=false:=h1
  unfold dk;rw[if_neg (no hb)]
 ·rw[if_pos h2];exact⟨rfl,rfl⟩
 all_goals rw[if_neg (no h2)]
 ·rw[if_pos h3,if_pos h4];exact⟨rfl,rfl⟩
 ·rw[if_pos h3,if_neg (no h4),if_pos h5];exact⟨rfl,rfl⟩
 ·rw[if_pos h3,if_neg (no h4),if_neg (no h5)];unfold fI;rw[if_pos h6,if_pos h7];exact⟨rfl,rfl⟩
 ·rw[if_pos h3,if_neg (no h4),if_neg (no h5)];unfold fI;rw[if_pos h6,if_neg (no h7),if_pos h8];exact⟨rfl,rfl⟩
 ·rw[if_pos h3,if_neg (no h4),if_neg (no h5)];unfold fI;rw[if_pos h6,if_neg (no h7),if_neg (no h8)];exact⟨rfl,rfl⟩
 ·rw[if_pos h3,if_neg (no h4),if_neg (no h5)];unfold fI;rw[if_neg (no h6)];exact⟨rfl,rfl⟩
 ·rw[if_neg (no h3)];unfold fI;rw[if_pos h6,if_pos h7];exact⟨rfl,rfl⟩
 ·rw[if_neg (no h3)];unfold fI;rw[if_pos h6,if_neg (no h7),if_pos h8];exact⟨rfl,rfl⟩
 ·rw[if_neg (no h3)];unfold fI;rw[if_pos h6,if_neg (no h7),if_neg (no h8)];exact⟨rfl,rfl⟩
 ·rw[if_neg (no h3)];unfold fI;rw[if_neg (no h6)];exact⟨rfl,rfl⟩
theorem Oj(i:Int)(l:List Str)(h:0≤i∧i<(c.trans.length:Int)∧c.states.length≤maxLen∧c.trans.length≤maxLen):ah Tryz.prog 160 [.e .chart c,.i i,.l .str l] [] (.x (.i (dk c i.toNat l (ETy.get .tran c.trans i.toNat)))) []:=by
 obtain⟨k,rfl⟩:=aA h.1
 rw[ai]
 exact Q8 c k l (by omega) h.2.2.1 h.2.2.2
def Gi:Ent:=(160,fun
 |[.agg [.pd (.str a),.pd (.lst .str b),.pd (.lst .var c),.pd (.lst .stat d),.pd (.lst .tran e)],.c (.pd (.int .i64 i)),.c (.pd (.lst .str l))],[]=>some (some (0≤i∧i<(e.length:Int)∧d.length≤maxLen∧e.length≤maxLen),.x (.c (.pd (.int .i64 (dk ⟨a,b,c,d,e⟩ i.toNat l (ETy.get .tran e i.toNat))))),[])
 |_,_=>none)
theorem PN:EntOk Tryz.prog Gi:=entOk fun vs ck=>by
 unfold Gi;dsimp only;split
 ·rename_i a b c d e i l;exact entS fun hp=>Oj ⟨a,b,c,d,e⟩ i l hp
 ·exact entN
end Go.Proofs.YtlhgnjmdopjpeaaGreatDoor
namespace Go.Proofs
open Go.Shelf
def Tryz.lays190_ren:Go.Shelf.Ren:=⟨fun |190=>211 |125=>104 |258=>255 |128=>171 |129=>172 |302=>288 |303=>289 |304=>290 |305=>291 |306=>292 |307=>293 |308=>294 |309=>295 |310=>296 |333=>315 |329=>218 |330=>219 |334=>316 |335=>317 |336=>318 |344=>324 |n=>n,fun |31=>22 |9=>9 |3=>3 |46=>120 |0=>0 |51=>183 |53=>185 |4=>4 |183=>175 |182=>174 |131=>180 |5=>5 |218=>229 |222=>233 |228=>261 |229=>113 |n=>n,fun |n=>n⟩
theorem Tryz.lays190:Go.Proofs.Lays.n190 Tryz.prog Tryz.lays190_ren:={
 mixed:=by kernel_rfl
 f125:=Tryz.func104.trans (congrArg some (by kernel_rfl))
 f128:=Tryz.func171.trans (congrArg some (by kernel_rfl))
 f129:=Tryz.func172.trans (congrArg some (by kernel_rfl))
 f190:=Tryz.func211.trans (congrArg some (by kernel_rfl))
 f258:=Tryz.func255.trans (congrArg some (by kernel_rfl))
 f302:=Tryz.func288.trans (congrArg some (by kernel_rfl))
 f303:=Tryz.func289.trans (congrArg some (by kernel_rfl))
 f304:=Tryz.func290.trans (congrArg some (by kernel_rfl))
 f305:=Tryz.func291.trans (congrArg some (by kernel_rfl))
 f306:=Tryz.func292.trans (congrArg some (by kernel_rfl))
 f307:=Tryz.func293.trans (congrArg some (by kernel_rfl))
 f308:=Tryz.func294.trans (congrArg some (by kernel_rfl))
 f309:=Tryz.func295.trans (congrArg some (by kernel_rfl))
 f310:=Tryz.func296.trans (congrArg some (by kernel_rfl))
 f329:=Tryz.func218.trans (congrArg some (by kernel_rfl))
 f330:=Tryz.func219.trans (congrArg some (by kernel_rfl))
 f333:=Tryz.func315.trans (congrArg some (by kernel_rfl))
 f334:=Tryz.func316.trans (congrArg some (by kernel_rfl))
 f335:=Tryz.func317.trans (congrArg some (by kernel_rfl))
 f336:=Tryz.func318.trans (congrArg some (by kernel_rfl))
 f344:=Tryz.func324.trans (congrArg some (by kernel_rfl))
 t0:=Tryz.underlying0
 a0:=Tryz.isAgg0
 z0:=Tryz.sizeOf0
 v0:=Tryz.zeroValue0
 t3:=Tryz.underlying3
 a3:=Tryz.isAgg3
 z3:=Tryz.sizeOf3
 v3:=Tryz.zeroValue3
 t4:=Tryz.underlying4
 a4:=Tryz.isAgg4
 z4:=Tryz.sizeOf4
 v4:=Tryz.zeroValue4
 t5:=Tryz.underlying5
 a5:=Tryz.isAgg5
 z5:=Tryz.sizeOf5
 v5:=Tryz.zeroValue5
 t9:=Tryz.underlying9
 a9:=Tryz.isAgg9
 z9:=Tryz.sizeOf9
 v9:=Tryz.zeroValue9
 t31:=Tryz.underlying22
 a31:=Tryz.isAgg22
 z31:=Tryz.sizeOf22
 v31:=Tryz.zeroValue22
 t46:=Tryz.underlying120
 a46:=Tryz.isAgg120
 z46:=Tryz.sizeOf120
 v46:=Tryz.zeroValue120
 t51:=Tryz.underlying183
 a51:=Tryz.isAgg183
 z51:=Tryz.sizeOf183
 v51:=Tryz.zeroValue183
 t53:=Tryz.underlying185
 a53:=Tryz.isAgg185
 z53:=Tryz.sizeOf185
 v53:=Tryz.zeroValue185
 t131:=Tryz.underlying180
 a131:=Tryz.isAgg180
 z131:=Tryz.sizeOf180
 v131:=Tryz.zeroValue180
 t182:=Tryz.underlying174
 a182:=Tryz.isAgg174
 z182:=Tryz.sizeOf174
 v182:=Tryz.zeroValue174
 t183:=Tryz.underlying175
 a183:=Tryz.isAgg175
 z183:=Tryz.sizeOf175
 v183:=Tryz.zeroValue175
 t218:=Tryz.underlying229
 a218:=Tryz.isAgg229
 z218:=Tryz.sizeOf229
 v218:=Tryz.zeroValue229
 t222:=Tryz.underlying233
 a222:=Tryz.isAgg233
 z222:=Tryz.sizeOf233
 v222:=Tryz.zeroValue233
 t228:=Tryz.underlying261
 a228:=Tryz.isAgg261
 z228:=Tryz.sizeOf261
 v228:=Tryz.zeroValue261
 t229:=Tryz.underlying113
 a229:=Tryz.isAgg113
 z229:=Tryz.sizeOf113
 v229:=Tryz.zeroValue113}
def Tryz.lays194_ren:Go.Shelf.Ren:=⟨fun |194=>212 |n=>n,fun |31=>22 |9=>9 |3=>3 |4=>4 |0=>0 |n=>n,fun |n=>n⟩
theorem Tryz.lays194:Go.Proofs.Lays.n194 Tryz.prog Tryz.lays194_ren:={
 mixed:=by kernel_rfl
 f194:=Tryz.func212.trans (congrArg some (by kernel_rfl))
 t0:=Tryz.underlying0
 a0:=Tryz.isAgg0
 z0:=Tryz.sizeOf0
 v0:=Tryz.zeroValue0
 t3:=Tryz.underlying3
 a3:=Tryz.isAgg3
 z3:=Tryz.sizeOf3
 v3:=Tryz.zeroValue3
 t4:=Tryz.underlying4
 a4:=Tryz.isAgg4
 z4:=Tryz.sizeOf4
 v4:=Tryz.zeroValue4
 t9:=Tryz.underlying9
 a9:=Tryz.isAgg9
 z9:=Tryz.sizeOf9
 v9:=Tryz.zeroValue9
 t31:=Tryz.underlying22
 a31:=Tryz.isAgg22
 z31:=Tryz.sizeOf22
 v31:=Tryz.zeroValue22}
open Go.Sort Go.RowKit in
theorem Tryz.slices_Sort_string(blk off cap:Nat)(ss:List (List UInt8))(w:World)(hH:Holds encStr w blk off ss.toArray)(hblk:blk<w.heap.size)(hsz:ss.length<4611686018427387904) :
 Calls Tryz.prog 211 #[.slice (some ⟨blk,off,none⟩) ss.length cap] w fun e w' =>
  e = .returned (.tuple #[])∧∃n os,w'=grow (putRow encStr (Sort.ahead w n) blk off (ss.mergeSort fun x y=>decide (x≤y)).toArray) os:=Any.slices_Sort_string Tryz.lays190 blk off cap ss w hH hblk hsz
open Go.RowKit Go.Lib Go.Sort in
theorem Tryz.slices_Compact_string(blk off cap:Nat)(zs:List (List UInt8))(w:World)(hH:Holds encStr w blk off zs.toArray)(hsz:zs.length≤9223372036854775807)(hcap:zs.length≤cap) :
 Calls Tryz.prog 212 #[.slice (some ⟨blk,off,none⟩) zs.length cap] w fun e w'=>e = .returned (.slice (some ⟨blk,off,none⟩) (Lib.compact zs).length cap)∧∃q,w'=putRow encStr (Sort.ahead w q) blk off (Lib.compact zs++List.replicate (zs.length - (Lib.compact zs).length) []).toArray:=Any.slices_Compact_string Tryz.lays194 blk off cap zs w hH hsz hcap
open Go.RowKit Go.Lib Go.Sort in
theorem Tryz.slices_Compact_string_empty(a:Option Addr)(cap:Nat)(w:World) :
 Calls Tryz.prog 212 #[.slice a 0 cap] w fun e w'=>e = .returned (.slice a 0 cap)∧w'=w:=Any.slices_Compact_string_empty Tryz.lays194 a cap w
open Go.RowKit Go.Sort in
theorem Tryz.slices_Sort_string_none(p:Option Addr)(cap:Nat)(w:World) :
 Calls Tryz.prog 211 #[.slice p 0 cap] w fun e w'=>e = .returned (.tuple #[])∧w'=w:=Any.slices_Sort_string_none Tryz.lays190 p cap w
end Go.Proofs
namespace Go.Proofs.YtlhgnjmdopjpeaaGreatDoor
open Go Go.Ev
set_option maxRecDepth 100000
variable(l:List Str)
theorem Db(h:room l.length 16):ah Tryz.prog 210 [.l .str l] [] (.x (.c (.own 0))) [.own 9 .str l]:=by
 refine ah.nilOwn Tryz.func210 (by kernel_rfl) (by kernel_rfl) fun Γ=>?_
 refine jg aX Tryz.func210 (.stop [.ops [1,0,0] 1,.code [1,0,1],.code [1,1]] {n:=8,fr:=[(0,.p (.lst .str l)),(2,.p (.v (Value.slice none 0 0))),(3,.p (.lst .str l))],ck:=[]}) ?_
 refine J.isNil (d:=4) (s:=3) (t:=.str) (l:=l) (by kernel_rfl) rfl (fun h0=>?_) ?_
 · refine jg aX Tryz.func210 (.ite true (.ret (.p (.v (Value.slice none 0 0))) []) (.need (room (([]++l).length) 16) (.ret (.x (.c (.own 0))) [.own 9 .str ([]++l)]))) ?_
   exact⟨fun _=>.inr ⟨h0,rfl,rfl⟩,fun h=>Bool.noConfusion h⟩
 · refine jg aX Tryz.func210 (.ite false (.ret (.p (.v (Value.slice none 0 0))) []) (.need (room (([]++l).length) 16) (.ret (.x (.c (.own 0))) [.own 9 .str ([]++l)]))) ?_
   exact⟨fun h=>Bool.noConfusion h,fun _=>⟨h,.inl ⟨rfl,rfl⟩⟩⟩
def rO:Ent:=(210,fun
 |[.c (.pd (.lst .str l))],[]=>some (some (room l.length 16),.x (.c (.own 0)),[.own 9 .str l])
 |_,_=>none)
theorem FF:EntOk Tryz.prog rO:=entOk fun vs ck=>by
 unfold rO;dsimp only;split
 ·rename_i l;exact entS fun hp=>Db l hp
 ·exact entN
theorem tX:l.flatMap (ETy.enc .str)=l.map PD.str:=by
 induction l with
 |nil=>rfl
 |cons a l ih=>rw[bF,aq,ih];rfl
theorem KA(H:Mem)(l:List Str):All2 (PR H) (l.map PD.str) (l.map encStr):=by
 induction l with
 |nil=>exact .nil
 |cons a l ih=>exact .cons (PR.str a) ih
theorem ES{H:Mem}:∀{l:List Str} {xs:List Value},All2 (PR H) (l.map PD.str) xs→xs=l.map encStr
 |[],_,h=>by cases h;rfl
 | a :: l,_,h=>by
   cases h with
   | cons a1 h =>
     rw[ES h,aq]
     cases a1;rfl
theorem Cs(d:List Str)(cur:Array Value)(h:d.length≤cur.size):(Sort.putCells encStr 0 d.toArray cur).toList.take d.length=d.map encStr:=by
 refine List.ext_getElem? fun k=>?_
 rw[List.getElem?_take,List.getElem?_map]
 by_cases hk:k<d.length
 · rw[if_pos hk]
   simp only[Sort.putCells,Array.toList_mapIdx,List.getElem?_mapIdx,Array.getElem?_toList]
   rw[Array.getElem?_eq_getElem (by omega),bu,if_pos ⟨aS _,by simpa using hk⟩,List.getElem?_eq_getElem hk]
   simp[hk]
 ·rw[if_neg hk,List.getElem?_eq_none (by omega)];rfl
def gK:List Str:=l.mergeSort fun x y=>decide (x≤y)
theorem EJ{V:Vn}{vs:List Value}{i:Nat}(hv:All2 (SX.R V) [.c (.own i)] vs):vs=[V.ov i]:=by
 cases hv with
 | cons a1 hv =>
   cases hv
   have h:_=V.ov i:=a1
   rw[h]
theorem Re{Γ:Ctx}{T:TypeId}{l:List Str}{V:Vn}{w:World}(r:WOk Γ [.own T .str l] V w){g n cap:Nat}{cur:Array Value}(ho:V.ov 0 = .slice (some ⟨g,0,none⟩) n cap)
 (hg:w.heap[g]?=some (.cells cur T (0,0))) (hn:n≤cap) (hm:cap≤maxLen) (hc:cur.size=cap * 1) (hs:V.σ 0=g) (d l':List Str) (hd:d.length=n) (hl:d=l') (hln:l.length=n) (q:Nat) :
 WOk Γ [.own T .str l'] V (Sort.putRow encStr (Sort.ahead w q) g 0 d.toArray):=by
 subst hl
 have hblk:(Chunk.own T .str l).blk V 0=some g:=by show(V.ov 0).ownBlock=_;rw[ho];rfl
 refine WOk.rewrite r (i:=0) (c:=.own T .str l) rfl (.own T .str d) ⟨rfl,rfl,rfl,by simp[Sort.putRow,Sort.mapBlock,Sort.ahead]⟩ (fun b hb=>?_) rfl ?_
 · rw[hblk]at hb
   have:g≠b:=fun e=>hb (by rw[e])
   simp[Sort.putRow,Sort.mapBlock,Sort.ahead,Array.getElem?_modify,this]
 · refine⟨d.map encStr,⟨by simp[ETy.size],.inr ⟨g,cap,Sort.putCells encStr 0 d.toArray cur,by rw[ho,hd],aS _,?_,by omega,hm,?_,?_⟩⟩,?_,fun b hb=>?_⟩
   ·simp[Sort.putRow,Sort.mapBlock,Sort.ahead,Array.getElem?_modify,hg,Sort.onCells]
   ·simp[Sort.putCells,hc,ETy.size]
   · have:=Cs d cur (by omega)
     simpa[ETy.size]using this
   ·rw[tX];exact KA _ _
   · rw[ho]at hb
     rw[hs];simpa[Value.ownBlock]using hb
theorem EK{T:TypeId}{l:List Str}{V:Vn}{w:World}(h:(Chunk.own T .str l).holds V w 0):(V.ov 0 = .slice none 0 0∧l=[]) ∨
 ∃g cap cur,V.ov 0 = .slice (some ⟨g,0,none⟩) l.length cap∧w.heap[g]?=some (.cells cur T (0,0))∧l.length≤cap∧cap≤maxLen∧cur.size=cap * 1∧V.σ 0=g∧Sort.Holds encStr w g 0 l.toArray:=by
 obtain⟨xs,⟨h1,h2⟩,h3,h4⟩:=h
 rw[tX]at h3
 have hx:=ES h3
 rcases h2 with⟨e,e0⟩ |⟨g,cap,cur,e,_,hg,hn,hm,hc,ht⟩
 ·exact .inl ⟨e,fV.1 e0⟩
 · refine .inr ⟨g,cap,cur,e,hg,hn,hm,hc,h4 g (by rw[e];rfl),fun j hj=>?_⟩
   have hj':j<l.length:=by simpa using hj
   have hsz:(ETy.size .str)=1:=rfl
   have hk:cur.toList[j]?=some (encStr l[j]):=by
    have:(cur.toList.take (l.length * ETy.size .str))[j]?=(l.map encStr)[j]?:=by rw[ht,hx]
    rw[List.getElem?_take,if_pos (by rw[hsz];omega),List.getElem?_map,List.getElem?_eq_getElem hj']at this
    exact this
   refine⟨?_,?_⟩
   · simp only[World.cell?,hg,ba]
     rw[←Array.getElem?_toList,hk]
     simp[hj']
   ·simp[World.frozen?,hg]
theorem Hm(h:l.length≤1000000):ah Tryz.prog 211 [.c (.own 0)] [.own 9 .str l] (.tup []) [.own 9 .str (gK l)]:=by
 intro w V vs hw hT hv
 rw[EJ hv]
 have hh:=hw.own 0 _ rfl
 rcases EK hh with⟨e,e0⟩ |⟨g,cap,cur,e,hg,hn,hm,hc,hs,hH⟩
 · rw[e]
   refine(Tryz.slices_Sort_string_none none 0 w).mono fun e w' ⟨he,hw'⟩=>?_
   subst he;subst hw'
   subst e0
   exact⟨_,V,rfl,⟨[],rfl,.nil⟩,by rw[show gK []=[]from List.mergeSort_nil];exact hw⟩
 · rw[e]
   have hb:=(Array.getElem?_eq_some_iff.1 hg).1
   refine(Tryz.slices_Sort_string g 0 cap l w hH hb (by omega)).mono fun e1 w' ⟨he,q,os,hw'⟩=>?_
   rw[show(l.mergeSort fun x y=>decide (x≤y))=gK l from rfl]at hw'
   subst he;subst hw'
   refine⟨_,V,rfl,⟨[],rfl,.nil⟩,?_⟩
   have h1:=Re hw e hg hn hm hc hs (gK l) (gK l) (List.length_mergeSort l) rfl rfl q
   refine h1.kept ⟨rfl,rfl,rfl,?_,fun k hk _=>?_⟩
   · show _≤(_++_:Array Obj).size
     rw[gl];omega
   · show(_++_:Array Obj)[k]?=_
     rw[Array.getElem?_append_left hk]
def uZ:Ent:=(211,fun
 |[.c (.own 0)],[.own 9 .str l]=>some (some (l.length≤1000000),.tup [],[.own 9 .str (gK l)])
 |_,_=>none)
theorem Ji:EntOk Tryz.prog uZ:=entOk fun vs ck=>by
 unfold uZ;dsimp only;split
 ·rename_i l;exact entS fun hp=>Hm l hp
 ·exact entN
def dR:List Str:=Lib.compact l
theorem LD:(dR l).length≤l.length:=by
 unfold dR Lib.compact Lib.compactUpTo
 rw[aP]
 exact aC (aY _ _) (by rw[gx];exact av _)
theorem yI(h:l.length≤1000000):ah Tryz.prog 212 [.c (.own 0)] [.own 9 .str l] (.x (.c (.own 1))) [.dead,.own 9 .str (dR l)]:=by
 intro w V vs hw hT hv
 rw[EJ hv]
 have hh:=hw.own 0 _ rfl
 have hle:=LD l
 rcases EK hh with⟨e,e0⟩ |⟨g,cap,cur,e,hg,hn,hm,hc,hs,hH⟩
 · rw [e]
   refine(Tryz.slices_Compact_string_empty none 0 w).mono fun e1 w' ⟨he,hw'⟩=>?_
   subst he;subst hw'
   subst e0
   obtain⟨V',_,_,_,e2,hw2⟩:=hw.regrow rfl (av _) none (c:=.own 9 .str []) (v':=.slice none 0 0) (s':=0) (w':=w') (row:=none) (by simp) (World.grownBy.refl _ _) (fun V' hag hH f1 f2=>by
    refine⟨⟨[],⟨rfl,.inl ⟨f2,rfl⟩⟩,.nil,fun b hb=>?_⟩,fun b hb=>?_⟩
    ·rw[f2]at hb;cases hb
    · have hb':(V'.ov 1).ownBlock=some b:=hb
      rw[show V'.ov 1=_ from f2]at hb';cases hb')
   refine⟨_,V',rfl,e2.symm,?_⟩
   have:=hw2.kill 0
   rw[show dR []=[]by simp[dR,Lib.compact,Lib.compactUpTo]]
   simpa[cZ]using this
 · rw [e]
   refine(Tryz.slices_Compact_string g 0 cap l w hH (by omega) hn).mono fun e1 w' ⟨he,q,hw'⟩=>?_
   rw[show Lib.compact l=dR l from rfl]at hw' he
   subst he;subst hw'
   have hdl:(dR l++List.replicate (l.length - (dR l).length) ([]:Str)).length=l.length:=by
    rw[au,dZ];omega
   have hpt:=Cs (dR l++List.replicate (l.length - (dR l).length) []) cur (by omega)
   have hpt2:(Sort.putCells encStr 0 (dR l++List.replicate (l.length - (dR l).length) ([]:Str)).toArray cur).toList.take (dR l).length=(dR l).map encStr:=by
    have h2:=congrArg (List.take (dR l).length) hpt
    rw[fc,hdl,dw hle,bC,eI (by rw[aP];exact av _)]at h2
    rw[h2];exact a8 (by rw[aP];exact av _)
   obtain⟨V',_,_,_,e2,hw2⟩:=hw.regrow rfl (av _) (some 0) (c:=.own 9 .str (dR l)) (v':=.slice (some ⟨g,0,none⟩) (dR l).length cap) (s':=g)
    (w':=Sort.putRow encStr (Sort.ahead w q) g 0 (dR l++List.replicate (l.length - (dR l).length) ([]:Str)).toArray) (row:=some g)
    (fun b hb=>⟨0,_,rfl,rfl,by show(V.ov 0).ownBlock=_;rw[e];exact hb⟩)
    ⟨rfl,rfl,rfl,by simp[Sort.putRow,Sort.mapBlock,Sort.ahead],fun k hk hne=>by
     have:g≠k:=fun e=>hne (by rw[e])
     simp[Sort.putRow,Sort.mapBlock,Sort.ahead,Array.getElem?_modify,this]⟩
    (fun V' hag hH f1 f2=>by
     refine⟨⟨(dR l).map encStr,⟨by simp[ETy.size],.inr ⟨g,cap,Sort.putCells encStr 0 (dR l++List.replicate (l.length - (dR l).length) ([]:Str)).toArray cur,f2,aS _,?_,by omega,hm,?_,?_⟩⟩,?_,fun b hb=>?_⟩,fun b hb=>?_⟩
     ·simp[Sort.putRow,Sort.mapBlock,Sort.ahead,Array.getElem?_modify,hg,Sort.onCells]
     ·simp[Sort.putCells,hc,ETy.size]
     ·simpa[ETy.size]using hpt2
     ·rw[tX];exact KA _ _
     · rw[f2]at hb
       rw[f1];simpa[Value.ownBlock]using hb
     · have hb':(V'.ov 1).ownBlock=some b:=hb
       rw[show V'.ov 1=_ from f2]at hb'
       exact .inl (by simpa[Value.ownBlock]using hb'))
   exact⟨_,V',rfl,e2.symm,hw2⟩
def uy:Ent:=(212,fun
 |[.c (.own 0)],[.own 9 .str l]=>some (some (l.length≤1000000),.x (.c (.own 1)),[.dead,.own 9 .str (dR l)])
 |_,_=>none)
theorem I1:EntOk Tryz.prog uy:=entOk fun vs ck=>by
 unfold uy;dsimp only;split
 ·rename_i l;exact entS fun hp=>yI l hp
 ·exact entN
def Oy:Cfg:=⟨aU,[rO,uZ,uy]⟩
theorem Lk:ag Tryz.prog Oy.tab:=(ag.cons FF (ag.cons Ji (ag.cons I1 ag.nil)))
end Go.Proofs.YtlhgnjmdopjpeaaGreatDoor
