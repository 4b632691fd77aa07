/- Contracts: valid: a state's blocks, an event, a transition. Conditions: sizes. The library's contracts of the shelf, laid at this dump by the kit's tools. Conditions: each one's own. Contracts: slices.Clone, Sort and Compact on texts. Conditions: sizes. -/
import Derived.Test.YtgfifkhbfdacjaaGreatDoorTh
import Derived.Shelf.Lays
import Derived.Shelf.Sort.Plain
import Derived.Shelf.Slices.In.SortNone
import Derived.Shelf.Slices.CompactS
import Derived.Test.YtgfifkhbfdacjaaGreatDoorProg
namespace Go.Proofs.YtgfifkhbfdacjaaGreatDoor
open Go Go.Ev
set_option maxRecDepth 100000
def Es:Cfg:=⟨aY,[wJ,mb]⟩
theorem CM:ag Tryz.prog Es.tab:=(ag.cons yZ (ag.cons nF ag.nil))
variable (c:Chart) (i:Nat) (l:List Str) (s:Str) (t:Tran)
def cQ (s:Ev.Stat):Int :=
 if (aO s.kind&&decide (IntKind.wrap .i64 ((s.entry.length:Int)+(s.leave.length:Int))>0)||s.kind==4&&decide ((s.leave.length:Int)>0))=true then 1
 else if (b9 c.events c.vars s.entry != 0)=true then b9 c.events c.vars s.entry else b9 c.events c.vars s.leave
theorem Ik (hi:i<c.states.length):ah Tryz.prog 93 [.e .chart c,.i (i:Int)] [] (.x (.i (cQ c (ETy.get .stat c.states i)))) []:=by
 refine dg CM Tryz.func93 (let x1:=(ETy.get .stat c.states i); let x2:=(↑((Stat.leave x1).length):Int); .need (inRg i c.states.length) (.ite (aO (Stat.kind x1)&&decide (IntKind.wrap .i64 ((↑((Stat.entry x1).length):Int)+x2)>(0:Int))||Stat.kind x1==(4:Int)&&decide (x2>0)) (.ret (.i 1) []) (.ite (b9 c.events c.vars (Stat.entry x1) != (0:Int)) (.ret (.i (b9 c.events c.vars (Stat.entry x1))) []) (.ret (.i (b9 c.events c.vars (Stat.leave x1))) [])))) fun Γ=>?_
 conv=>zeta
 refine ⟨⟨by omega,by omega⟩,?_⟩
 generalize ETy.get .stat c.states i=s
 refine ⟨fun h=>?_,fun h=>⟨fun h2=>?_,fun h2=>?_⟩⟩
 · unfold cQ; rw [if_pos h]; exact ⟨rfl,rfl⟩
 · unfold cQ; rw [if_neg (by rw [h]; decide),if_pos h2]; exact ⟨rfl,rfl⟩
 · unfold cQ; rw [if_neg (by rw [h]; decide),if_neg (by rw [h2]; decide)]; exact ⟨rfl,rfl⟩
theorem CS (i:Int) (h:0≤i∧i<(c.states.length:Int)):ah Tryz.prog 93 [.e .chart c,.i i] [] (.x (.i (cQ c (ETy.get .stat c.states i.toNat)))) []:=by
 obtain ⟨k,rfl⟩:=aD h.1
 rw [ai]
 exact Ik c k (by omega)
def uP:Ent:=(93,fun
 | [.agg [.pd (.str a),.pd (.lst .str b),.pd (.lst .var c),.pd (.lst .stat d),.pd (.lst .tran e)],.c (.pd (.int .i64 i))],[]=>some (some (0≤i∧i<(d.length:Int)),.x (.c (.pd (.int .i64 (cQ ⟨a,b,c,d,e⟩ (ETy.get .stat d i.toNat))))),[])
 | _,_=>none)
theorem F8:EntOk Tryz.prog uP:=entOk fun vs ck=>by
 unfold uP; dsimp only; split
 · rename_i a b c d e i; exact entS fun hp=>CS ⟨a,b,c,d,e⟩ i hp
 · exact entN
def IQ:Cfg:=⟨aY,[eSc,jL,vQ]⟩
theorem F5:ag Tryz.prog IQ.tab:=(ag.cons xE (ag.cons jM (ag.cons Am ag.nil)))
def nP:Str:=[101,114,114,111,114]
def eX:Str:=[100,111,110,101,46]
def gE:Bool :=
 if (s==[]||s==nP||c.events.any (fun x=>s==x))=true then true
 else dC s eX&&decide (az c.states (dA s eX)≥0)&&((ETy.get .stat c.states (az c.states (dA s eX)).toNat).kind==2||(ETy.get .stat c.states (az c.states (dA s eX)).toNat).kind==3)
theorem ED {b:Bool} {i:Int} (h:(b&&decide (i≥0))=true):0≤i:=by
 rw [af] at h; exact of_decide_eq_true h.2
theorem vS {l:List Ev.Stat} {n:Str} (h:0≤az l n):0≤az l n∧az l n<(l.length:Int):=by
 rcases jh l n with e | e
 · omega
 · exact e
theorem yh:ah Tryz.prog 142 [.e .chart c,.s s] [] (.x (.b (gE c s))) []:=by
 refine dg F5 Tryz.func142 (let x1:=[(100:UInt8),111,110,101,46]; let x2:=(ETy.get .stat c.states ((az c.states (dA s x1)).toNat)); let x3:=(az c.states (dA s x1)≥(0:Int)); .ite (s==[]||s==[101,114,114,111,114]||List.any c.events fun x=>s==x) (.ret (.p (.bool true)) []) (.need ((dC s x1&&decide x3)=true→(0:Int)≤az c.states (dA s x1)∧az c.states (dA s x1)<(c.states.length:Int)) (.need ((dC s x1&&decide x3)=true∧(Stat.kind x2==(2:Int))=false→(0:Int)≤az c.states (dA s x1)∧az c.states (dA s x1)<(c.states.length:Int)) (.ret (.p (.bool (dC s x1&&decide x3&&(Stat.kind x2==(2:Int)||Stat.kind x2==(3:Int))))) [])))) fun Γ=>?_
 conv=>zeta
 refine ⟨fun h=>?_,fun h=>⟨fun h1=>vS (ED h1),fun h1=>vS (ED h1.1),?_⟩⟩
 · have h':(s==[]||s==nP||c.events.any fun x=>s==x)=true:=h
   unfold gE; rw [if_pos h']; exact ⟨rfl,rfl⟩
 · have h':(s==[]||s==nP||c.events.any fun x=>s==x)=false:=h
   unfold gE; rw [if_neg (by rw [h']; decide)]; exact ⟨rfl,rfl⟩
def BY:Ent:=(142,fun
 | [.agg [.pd (.str a),.pd (.lst .str b),.pd (.lst .var c),.pd (.lst .stat d),.pd (.lst .tran e)],.c (.pd (.str s))],[]=>some (none,.x (.c (.pd (.bool (gE ⟨a,b,c,d,e⟩ s)))),[])
 | _,_=>none)
theorem Lj:EntOk Tryz.prog BY:=entOk fun vs ck=>by
 unfold BY; dsimp only; split
 · rename_i a b c d e s; exact entS fun hp=>yh ⟨a,b,c,d,e⟩ s
 · exact entN
def IL:Cfg:=⟨aY,[wJ,jL,l5,eOf,BY]⟩
theorem HR:ag Tryz.prog IL.tab:=(ag.cons yZ (ag.cons jM (ag.cons rR (ag.cons Ec (ag.cons Lj ag.nil)))))
def eu:Int :=
 if (!(t.dst==[]))=true then (if decide (az c.states t.dst<0)=true then 2
  else if decide (dt c.states t.src (az c.states t.dst)<0)=true then 9 else b9 c.events c.vars t.acts)
 else b9 c.events c.vars t.acts
def fQ:Bool :=
 decide (t.src<0)||decide (t.src≥(c.states.length:Int))||decide ((i:Int)>0)&&decide (t.src<(ETy.get .tran c.trans (IntKind.wrap .i64 ((i:Int) - 1)).toNat).src)||decide ((ETy.get .stat c.states t.src.toNat).kind>3)
def cK (real:List Str) (t:Tran):Int :=
 if fQ c i t=true then 1
 else if (!gE c t.event)=true then 2
 else if decide ((t.guard.length:Int)>0)=true then
  (if ((bY t.guard c.vars real).2 != 0)=true then (bY t.guard c.vars real).2
   else if ((bY t.guard c.vars real).1 != 2)=true then 8 else eu c t)
 else eu c t
theorem KK (hi:i<c.trans.length) (hl:c.states.length≤maxLen) (ht:c.trans.length≤maxLen):ah Tryz.prog 95 [.e .chart c,.i (i:Int),.l .str l] [] (.x (.i (cK c i l (ETy.get .tran c.trans i)))) []:=by
 refine dg HR Tryz.func95 (let x1:=(ETy.get .tran c.trans i); let x7:Tree:=(.ret (.i (b9 c.events c.vars (Tran.acts x1))) []); let x2:Tree:=(.ite (!Tran.dst x1==[]) (.ite (decide (az c.states (Tran.dst x1)<(0:Int))) (.ret (.i 2) []) (.need (c.states.length≤maxLen) (.ite (decide (dt c.states (Tran.src x1) (az c.states (Tran.dst x1))<(0:Int))) (.ret (.i 9) []) x7))) x7); let x3:=(Tran.src x1<Tran.src (ETy.get .tran c.trans ((IntKind.wrap .i64 ((i:Int) - 1)).toNat))); let x4:=(Tran.src x1≥(c.states.length:Int)); let x5:=(bY (Tran.guard x1) c.vars l); let x6:=(Tran.src x1<(0:Int)); .need (inRg i c.trans.length) (.need ((((14,30,true,du true (decide ((i:Int)>0)) (some (11,27,false,du false (decide x6||decide x4) none))).2).2).2→(0:Int)≤IntKind.wrap .i64 ((i:Int) - 1)∧IntKind.wrap .i64 ((i:Int) - 1)<(c.trans.length:Int)) (.need ((((27,43,false,du false (decide x6||decide x4||decide ((i:Int)>0)&&decide x3) none).2).2).2→(0:Int)≤Tran.src x1∧Tran.src x1<(c.states.length:Int)) (.ite (decide x6||decide x4||decide ((i:Int)>0)&&decide x3||decide (Stat.kind (ETy.get .stat c.states ((Tran.src x1).toNat))>(3:Int))) (.ret (.i 1) []) (.ite (!gE c (Tran.event x1)) (.ret (.i 2) []) (.ite (decide ((↑((Tran.guard x1).length):Int)>0)) (.ite (x5.2 != (0:Int)) (.ret (.i (x5.2)) []) (.ite (x5.1 != (2:Int)) (.ret (.i 8) []) x2)) x2)))))) fun Γ=>?_
 conv=>zeta
 refine ⟨⟨by omega,by omega⟩,fun h=>?_,?_⟩
 · have h1:decide ((i:Int)>0)=true:=h.2
   have:=of_decide_eq_true h1
   have hm:maxLen≤9223372036854775807:=by decide
   rw [cg (by omega) (by omega)]; omega
 generalize ETy.get .tran c.trans i=t
 have no:∀ {b:Bool},b=false→¬b=true:=fun h e=>by rw [h] at e; cases e
 refine ⟨fun h=>?_,fun h1=>?_,fun h1=>⟨fun h2=>?_,fun h2=>⟨fun h3=>⟨fun h4=>?_,fun h4=>⟨fun h5=>?_,fun h5=>⟨fun h6=>⟨fun h7=>?_,fun h7=>⟨hl,fun h8=>?_,fun h8=>?_⟩⟩,fun h6=>?_⟩⟩⟩,fun h3=>⟨fun h6=>⟨fun h7=>?_,fun h7=>⟨hl,fun h8=>?_,fun h8=>?_⟩⟩,fun h6=>?_⟩⟩⟩⟩
 · have h1:(decide (t.src<0)||decide (t.src≥(c.states.length:Int))||decide ((i:Int)>0)&&decide (t.src<(ETy.get .tran c.trans (IntKind.wrap .i64 ((i:Int) - 1)).toNat).src))=false:=h
   rw [ay,ay] at h1
   have:=of_decide_eq_false h1.1.1
   have:=of_decide_eq_false h1.1.2
   omega
 · have hb:fQ c i t=true:=h1
   unfold cK; rw [if_pos hb]; exact ⟨rfl,rfl⟩
 all_goals
  have hb:fQ c i t=false:=h1
  unfold cK; rw [if_neg (no hb)]
 · rw [if_pos h2]; exact ⟨rfl,rfl⟩
 all_goals rw [if_neg (no h2)]
 · rw [if_pos h3,if_pos h4]; exact ⟨rfl,rfl⟩
 · rw [if_pos h3,if_neg (no h4),if_pos h5]; exact ⟨rfl,rfl⟩
 · rw [if_pos h3,if_neg (no h4),if_neg (no h5)]; unfold eu; rw [if_pos h6,if_pos h7]; exact ⟨rfl,rfl⟩
 · rw [if_pos h3,if_neg (no h4),if_neg (no h5)]; unfold eu; rw [if_pos h6,if_neg (no h7),if_pos h8]; exact ⟨rfl,rfl⟩
 · rw [if_pos h3,if_neg (no h4),if_neg (no h5)]; unfold eu; rw [if_pos h6,if_neg (no h7),if_neg (no h8)]; exact ⟨rfl,rfl⟩
 · rw [if_pos h3,if_neg (no h4),if_neg (no h5)]; unfold eu; rw [if_neg (no h6)]; exact ⟨rfl,rfl⟩
 · rw [if_neg (no h3)]; unfold eu; rw [if_pos h6,if_pos h7]; exact ⟨rfl,rfl⟩
 · rw [if_neg (no h3)]; unfold eu; rw [if_pos h6,if_neg (no h7),if_pos h8]; exact ⟨rfl,rfl⟩
 · rw [if_neg (no h3)]; unfold eu; rw [if_pos h6,if_neg (no h7),if_neg (no h8)]; exact ⟨rfl,rfl⟩
 · rw [if_neg (no h3)]; unfold eu; rw [if_neg (no h6)]; exact ⟨rfl,rfl⟩
theorem FK (i:Int) (l:List Str) (h:0≤i∧i<(c.trans.length:Int)∧c.states.length≤maxLen∧c.trans.length≤maxLen):ah Tryz.prog 95 [.e .chart c,.i i,.l .str l] [] (.x (.i (cK c i.toNat l (ETy.get .tran c.trans i.toNat)))) []:=by
 obtain ⟨k,rfl⟩:=aD h.1
 rw [ai]
 exact KK c k l (by omega) h.2.2.1 h.2.2.2
def Bz:Ent:=(95,fun
 | [.agg [.pd (.str a),.pd (.lst .str b),.pd (.lst .var c),.pd (.lst .stat d),.pd (.lst .tran e)],.c (.pd (.int .i64 i)),.c (.pd (.lst .str l))],[]=>some (some (0≤i∧i<(e.length:Int)∧d.length≤maxLen∧e.length≤maxLen),.x (.c (.pd (.int .i64 (cK ⟨a,b,c,d,e⟩ i.toNat l (ETy.get .tran e i.toNat))))),[])
 | _,_=>none)
theorem Kz:EntOk Tryz.prog Bz:=entOk fun vs ck=>by
 unfold Bz; dsimp only; split
 · rename_i a b c d e i l; exact entS fun hp=>FK ⟨a,b,c,d,e⟩ i l hp
 · exact entN
end Go.Proofs.YtgfifkhbfdacjaaGreatDoor
namespace Go.Proofs
open Go.Shelf
def Tryz.lays190_ren:Go.Shelf.Ren:=⟨fun | 190=>135 | 125=>173 | 258=>172 | 128=>214 | 129=>215 | 302=>205 | 303=>206 | 304=>207 | 305=>208 | 306=>209 | 307=>210 | 308=>211 | 309=>212 | 310=>213 | 333=>248 | 329=>249 | 330=>250 | 334=>251 | 335=>252 | 336=>253 | 344=>273 | n=>n,fun | 31=>22 | 9=>9 | 3=>3 | 46=>130 | 0=>0 | 51=>222 | 53=>224 | 4=>4 | 183=>216 | 182=>215 | 131=>74 | 5=>5 | 218=>247 | 222=>251 | 228=>272 | 229=>83 | n=>n,fun | n=>n⟩
theorem Tryz.lays190:Go.Proofs.Lays.n190 Tryz.prog Tryz.lays190_ren:={
 mixed:=by kernel_rfl
 f125:=Tryz.func173.trans (congrArg some (by kernel_rfl))
 f128:=Tryz.func214.trans (congrArg some (by kernel_rfl))
 f129:=Tryz.func215.trans (congrArg some (by kernel_rfl))
 f190:=Tryz.func135.trans (congrArg some (by kernel_rfl))
 f258:=Tryz.func172.trans (congrArg some (by kernel_rfl))
 f302:=Tryz.func205.trans (congrArg some (by kernel_rfl))
 f303:=Tryz.func206.trans (congrArg some (by kernel_rfl))
 f304:=Tryz.func207.trans (congrArg some (by kernel_rfl))
 f305:=Tryz.func208.trans (congrArg some (by kernel_rfl))
 f306:=Tryz.func209.trans (congrArg some (by kernel_rfl))
 f307:=Tryz.func210.trans (congrArg some (by kernel_rfl))
 f308:=Tryz.func211.trans (congrArg some (by kernel_rfl))
 f309:=Tryz.func212.trans (congrArg some (by kernel_rfl))
 f310:=Tryz.func213.trans (congrArg some (by kernel_rfl))
 f329:=Tryz.func249.trans (congrArg some (by kernel_rfl))
 f330:=Tryz.func250.trans (congrArg some (by kernel_rfl))
 f333:=Tryz.func248.trans (congrArg some (by kernel_rfl))
 f334:=Tryz.func251.trans (congrArg some (by kernel_rfl))
 f335:=Tryz.func252.trans (congrArg some (by kernel_rfl))
 f336:=Tryz.func253.trans (congrArg some (by kernel_rfl))
 f344:=Tryz.func273.trans (congrArg some (by kernel_rfl))
 t0:=Tryz.underlying0
 a0:=Tryz.isAgg0
 z0:=Tryz.sizeOf0
 v0:=Tryz.zeroValue0
 t3:=Tryz.underlying3
 a3:=Tryz.isAgg3
 z3:=Tryz.sizeOf3
 v3:=Tryz.zeroValue3
 t4:=Tryz.underlying4
 a4:=Tryz.isAgg4
 z4:=Tryz.sizeOf4
 v4:=Tryz.zeroValue4
 t5:=Tryz.underlying5
 a5:=Tryz.isAgg5
 z5:=Tryz.sizeOf5
 v5:=Tryz.zeroValue5
 t9:=Tryz.underlying9
 a9:=Tryz.isAgg9
 z9:=Tryz.sizeOf9
 v9:=Tryz.zeroValue9
 t31:=Tryz.underlying22
 a31:=Tryz.isAgg22
 z31:=Tryz.sizeOf22
 v31:=Tryz.zeroValue22
 t46:=Tryz.underlying130
 a46:=Tryz.isAgg130
 z46:=Tryz.sizeOf130
 v46:=Tryz.zeroValue130
 t51:=Tryz.underlying222
 a51:=Tryz.isAgg222
 z51:=Tryz.sizeOf222
 v51:=Tryz.zeroValue222
 t53:=Tryz.underlying224
 a53:=Tryz.isAgg224
 z53:=Tryz.sizeOf224
 v53:=Tryz.zeroValue224
 t131:=Tryz.underlying74
 a131:=Tryz.isAgg74
 z131:=Tryz.sizeOf74
 v131:=Tryz.zeroValue74
 t182:=Tryz.underlying215
 a182:=Tryz.isAgg215
 z182:=Tryz.sizeOf215
 v182:=Tryz.zeroValue215
 t183:=Tryz.underlying216
 a183:=Tryz.isAgg216
 z183:=Tryz.sizeOf216
 v183:=Tryz.zeroValue216
 t218:=Tryz.underlying247
 a218:=Tryz.isAgg247
 z218:=Tryz.sizeOf247
 v218:=Tryz.zeroValue247
 t222:=Tryz.underlying251
 a222:=Tryz.isAgg251
 z222:=Tryz.sizeOf251
 v222:=Tryz.zeroValue251
 t228:=Tryz.underlying272
 a228:=Tryz.isAgg272
 z228:=Tryz.sizeOf272
 v228:=Tryz.zeroValue272
 t229:=Tryz.underlying83
 a229:=Tryz.isAgg83
 z229:=Tryz.sizeOf83
 v229:=Tryz.zeroValue83 }
def Tryz.lays194_ren:Go.Shelf.Ren:=⟨fun | 194=>136 | n=>n,fun | 31=>22 | 9=>9 | 3=>3 | 4=>4 | 0=>0 | n=>n,fun | n=>n⟩
theorem Tryz.lays194:Go.Proofs.Lays.n194 Tryz.prog Tryz.lays194_ren:={
 mixed:=by kernel_rfl
 f194:=Tryz.func136.trans (congrArg some (by kernel_rfl))
 t0:=Tryz.underlying0
 a0:=Tryz.isAgg0
 z0:=Tryz.sizeOf0
 v0:=Tryz.zeroValue0
 t3:=Tryz.underlying3
 a3:=Tryz.isAgg3
 z3:=Tryz.sizeOf3
 v3:=Tryz.zeroValue3
 t4:=Tryz.underlying4
 a4:=Tryz.isAgg4
 z4:=Tryz.sizeOf4
 v4:=Tryz.zeroValue4
 t9:=Tryz.underlying9
 a9:=Tryz.isAgg9
 z9:=Tryz.sizeOf9
 v9:=Tryz.zeroValue9
 t31:=Tryz.underlying22
 a31:=Tryz.isAgg22
 z31:=Tryz.sizeOf22
 v31:=Tryz.zeroValue22 }
open Go.Sort Go.RowKit in
theorem Tryz.slices_Sort_string (blk off cap:Nat) (ss:List (List UInt8)) (w:World) (hH:Holds encStr w blk off ss.toArray) (hblk:blk<w.heap.size) (hsz:ss.length<4611686018427387904) :
 Calls Tryz.prog 135 #[.slice (some ⟨blk,off,none⟩) ss.length cap] w fun e w' =>
  e = .returned (.tuple #[])∧∃ n os,w'=grow (putRow encStr (Sort.ahead w n) blk off (ss.mergeSort fun x y=>decide (x≤y)).toArray) os:=Any.slices_Sort_string Tryz.lays190 blk off cap ss w hH hblk hsz
open Go.RowKit Go.Lib Go.Sort in
theorem Tryz.slices_Compact_string (blk off cap:Nat) (zs:List (List UInt8)) (w:World) (hH:Holds encStr w blk off zs.toArray) (hsz:zs.length≤9223372036854775807) (hcap:zs.length≤cap) :
 Calls Tryz.prog 136 #[.slice (some ⟨blk,off,none⟩) zs.length cap] w fun e w'=>e = .returned (.slice (some ⟨blk,off,none⟩) (Lib.compact zs).length cap)∧∃ q,w'=putRow encStr (Sort.ahead w q) blk off (Lib.compact zs++List.replicate (zs.length - (Lib.compact zs).length) []).toArray:=Any.slices_Compact_string Tryz.lays194 blk off cap zs w hH hsz hcap
open Go.RowKit Go.Lib Go.Sort in
theorem Tryz.slices_Compact_string_empty (a:Option Addr) (cap:Nat) (w:World) :
 Calls Tryz.prog 136 #[.slice a 0 cap] w fun e w'=>e = .returned (.slice a 0 cap)∧w'=w:=Any.slices_Compact_string_empty Tryz.lays194 a cap w
open Go.RowKit Go.Sort in
theorem Tryz.slices_Sort_string_none (p:Option Addr) (cap:Nat) (w:World) :
 Calls Tryz.prog 135 #[.slice p 0 cap] w fun e w'=>e = .returned (.tuple #[])∧w'=w:=Any.slices_Sort_string_none Tryz.lays190 p cap w
end Go.Proofs
namespace Go.Proofs.YtgfifkhbfdacjaaGreatDoor
open Go Go.Ev
set_option maxRecDepth 100000
variable (l:List Str)
theorem xT (h:room l.length 16):ah Tryz.prog 134 [.l .str l] [] (.x (.c (.own 0))) [.own 9 .str l]:=by
 refine ah.nilOwn Tryz.func134 (by kernel_rfl) (by kernel_rfl) fun Γ=>?_
 refine jg aR Tryz.func134 (.stop [.ops [1,0,0] 1,.code [1,0,1],.code [1,1]] { n:=8,fr:=[(0,.p (.lst .str l)),(2,.p (.v (Value.slice none 0 0))),(3,.p (.lst .str l))],ck:=[] }) ?_
 refine J.isNil (d:=4) (s:=3) (t:=.str) (l:=l) (by kernel_rfl) rfl (fun h0=>?_) ?_
 · refine jg aR Tryz.func134 (.ite true (.ret (.p (.v (Value.slice none 0 0))) []) (.need (room (([]++l).length) 16) (.ret (.x (.c (.own 0))) [.own 9 .str ([]++l)]))) ?_
   exact ⟨fun _=>.inr ⟨h0,rfl,rfl⟩,fun h=>Bool.noConfusion h⟩
 · refine jg aR Tryz.func134 (.ite false (.ret (.p (.v (Value.slice none 0 0))) []) (.need (room (([]++l).length) 16) (.ret (.x (.c (.own 0))) [.own 9 .str ([]++l)]))) ?_
   exact ⟨fun h=>Bool.noConfusion h,fun _=>⟨h,.inl ⟨rfl,rfl⟩⟩⟩
def oV:Ent:=(134,fun
 | [.c (.pd (.lst .str l))],[]=>some (some (room l.length 16),.x (.c (.own 0)),[.own 9 .str l])
 | _,_=>none)
theorem Br:EntOk Tryz.prog oV:=entOk fun vs ck=>by
 unfold oV; dsimp only; split
 · rename_i l; exact entS fun hp=>xT l hp
 · exact entN
theorem pU:l.flatMap (ETy.enc .str)=l.map PD.str:=by
 induction l with
 | nil=>rfl
 | cons a l ih=>rw [bq,aw,ih]; rfl
theorem En (H:Mem) (l:List Str):All2 (PR H) (l.map PD.str) (l.map encStr):=by
 induction l with
 | nil=>exact .nil
 | cons a l ih=>exact .cons (PR.str a) ih
theorem As {H:Mem}:∀ {l:List Str} {xs:List Value},All2 (PR H) (l.map PD.str) xs→xs=l.map encStr
 | [],_,h=>by cases h; rfl
 | a :: l,_,h=>by
   cases h with
   | cons a1 h =>
     rw [As h,aw]
     cases a1; rfl
theorem vV (d:List Str) (cur:Array Value) (h:d.length≤cur.size):(Sort.putCells encStr 0 d.toArray cur).toList.take d.length=d.map encStr:=by
 refine List.ext_getElem? fun k=>?_
 rw [List.getElem?_take,List.getElem?_map]
 by_cases hk:k<d.length
 · rw [if_pos hk]
   simp only [Sort.putCells,Array.toList_mapIdx,List.getElem?_mapIdx,Array.getElem?_toList]
   rw [Array.getElem?_eq_getElem (by omega),bF,if_pos ⟨aQ _,by simpa using hk⟩,List.getElem?_eq_getElem hk]
   simp [hk]
 · rw [if_neg hk,List.getElem?_eq_none (by omega)]; rfl
def fk:List Str:=l.mergeSort fun x y=>decide (x≤y)
theorem Ao {V:Vn} {vs:List Value} {i:Nat} (hv:All2 (SX.R V) [.c (.own i)] vs):vs=[V.ov i]:=by
 cases hv with
 | cons a1 hv =>
   cases hv
   have h:_=V.ov i:=a1
   rw [h]
theorem Kb {Γ:Ctx} {T:TypeId} {l:List Str} {V:Vn} {w:World} (r:WOk Γ [.own T .str l] V w) {g n cap:Nat} {cur:Array Value} (ho:V.ov 0 = .slice (some ⟨g,0,none⟩) n cap)
 (hg:w.heap[g]?=some (.cells cur T (0,0))) (hn:n≤cap) (hm:cap≤maxLen) (hc:cur.size=cap * 1) (hs:V.σ 0=g) (d l':List Str) (hd:d.length=n) (hl:d=l') (hln:l.length=n) (q:Nat) :
 WOk Γ [.own T .str l'] V (Sort.putRow encStr (Sort.ahead w q) g 0 d.toArray):=by
 subst hl
 have hblk:(Chunk.own T .str l).blk V 0=some g:=by show (V.ov 0).ownBlock=_; rw [ho]; rfl
 refine WOk.rewrite r (i:=0) (c:=.own T .str l) rfl (.own T .str d) ⟨rfl,rfl,rfl,by simp [Sort.putRow,Sort.mapBlock,Sort.ahead]⟩ (fun b hb=>?_) rfl ?_
 · rw [hblk] at hb
   have:g≠b:=fun e=>hb (by rw [e])
   simp [Sort.putRow,Sort.mapBlock,Sort.ahead,Array.getElem?_modify,this]
 · refine ⟨d.map encStr,⟨by simp [ETy.size],.inr ⟨g,cap,Sort.putCells encStr 0 d.toArray cur,by rw [ho,hd],aQ _,?_,by omega,hm,?_,?_⟩⟩,?_,fun b hb=>?_⟩
   · simp [Sort.putRow,Sort.mapBlock,Sort.ahead,Array.getElem?_modify,hg,Sort.onCells]
   · simp [Sort.putCells,hc,ETy.size]
   · have:=vV d cur (by omega)
     simpa [ETy.size] using this
   · rw [pU]; exact En _ _
   · rw [ho] at hb
     rw [hs]; simpa [Value.ownBlock] using hb
theorem Ar {T:TypeId} {l:List Str} {V:Vn} {w:World} (h:(Chunk.own T .str l).holds V w 0):(V.ov 0 = .slice none 0 0∧l=[]) ∨
 ∃ g cap cur,V.ov 0 = .slice (some ⟨g,0,none⟩) l.length cap∧w.heap[g]?=some (.cells cur T (0,0))∧l.length≤cap∧cap≤maxLen∧cur.size=cap * 1∧V.σ 0=g∧Sort.Holds encStr w g 0 l.toArray:=by
 obtain ⟨xs,⟨h1,h2⟩,h3,h4⟩:=h
 rw [pU] at h3
 have hx:=As h3
 rcases h2 with ⟨e,e0⟩ | ⟨g,cap,cur,e,_,hg,hn,hm,hc,ht⟩
 · exact .inl ⟨e,List.length_eq_zero_iff.1 e0⟩
 · refine .inr ⟨g,cap,cur,e,hg,hn,hm,hc,h4 g (by rw [e]; rfl),fun j hj=>?_⟩
   have hj':j<l.length:=by simpa using hj
   have hsz:(ETy.size .str)=1:=rfl
   have hk:cur.toList[j]?=some (encStr l[j]):=by
    have:(cur.toList.take (l.length * ETy.size .str))[j]?=(l.map encStr)[j]?:=by rw [ht,hx]
    rw [List.getElem?_take,if_pos (by rw [hsz]; omega),List.getElem?_map,List.getElem?_eq_getElem hj'] at this
    exact this
   refine ⟨?_,?_⟩
   · simp only [World.cell?,hg,a8]
     rw [← Array.getElem?_toList,hk]
     simp [hj']
   · simp [World.frozen?,hg]
theorem Ch (h:l.length≤1000000):ah Tryz.prog 135 [.c (.own 0)] [.own 9 .str l] (.tup []) [.own 9 .str (fk l)]:=by
 intro w V vs hw hT hv
 rw [Ao hv]
 have hh:=hw.own 0 _ rfl
 rcases Ar hh with ⟨e,e0⟩ | ⟨g,cap,cur,e,hg,hn,hm,hc,hs,hH⟩
 · rw [e]
   refine (Tryz.slices_Sort_string_none none 0 w).mono fun e w' ⟨he,hw'⟩=>?_
   subst he; subst hw'
   subst e0
   exact ⟨_,V,rfl,⟨[],rfl,.nil⟩,by rw [show fk []=[] from List.mergeSort_nil]; exact hw⟩
 · rw [e]
   have hb:=(Array.getElem?_eq_some_iff.1 hg).1
   refine (Tryz.slices_Sort_string g 0 cap l w hH hb (by omega)).mono fun e1 w' ⟨he,q,os,hw'⟩=>?_
   rw [show (l.mergeSort fun x y=>decide (x≤y))=fk l from rfl] at hw'
   subst he; subst hw'
   refine ⟨_,V,rfl,⟨[],rfl,.nil⟩,?_⟩
   have h1:=Kb hw e hg hn hm hc hs (fk l) (fk l) (List.length_mergeSort l) rfl rfl q
   refine h1.kept ⟨rfl,rfl,rfl,?_,fun k hk _=>?_⟩
   · show _≤(_++_:Array Obj).size
     rw [Array.size_append]; omega
   · show (_++_:Array Obj)[k]?=_
     rw [Array.getElem?_append_left hk]
def rM:Ent:=(135,fun
 | [.c (.own 0)],[.own 9 .str l]=>some (some (l.length≤1000000),.tup [],[.own 9 .str (fk l)])
 | _,_=>none)
theorem C1:EntOk Tryz.prog rM:=entOk fun vs ck=>by
 unfold rM; dsimp only; split
 · rename_i l; exact entS fun hp=>Ch l hp
 · exact entN
def c5:List Str:=Lib.compact l
theorem ID:(c5 l).length≤l.length:=by
 unfold c5 Lib.compact Lib.compactUpTo
 rw [aN]
 exact av (br _ _) (by rw [dE]; exact aq _)
theorem uu (h:l.length≤1000000):ah Tryz.prog 136 [.c (.own 0)] [.own 9 .str l] (.x (.c (.own 1))) [.dead,.own 9 .str (c5 l)]:=by
 intro w V vs hw hT hv
 rw [Ao hv]
 have hh:=hw.own 0 _ rfl
 have hle:=ID l
 rcases Ar hh with ⟨e,e0⟩ | ⟨g,cap,cur,e,hg,hn,hm,hc,hs,hH⟩
 · rw [e]
   refine (Tryz.slices_Compact_string_empty none 0 w).mono fun e1 w' ⟨he,hw'⟩=>?_
   subst he; subst hw'
   subst e0
   obtain ⟨V',_,_,_,e2,hw2⟩:=hw.regrow rfl (aq _) none (c:=.own 9 .str []) (v':=.slice none 0 0) (s':=0) (w':=w') (row:=none) (by simp) (World.grownBy.refl _ _) (fun V' hag hH f1 f2=>by
    refine ⟨⟨[],⟨rfl,.inl ⟨f2,rfl⟩⟩,.nil,fun b hb=>?_⟩,fun b hb=>?_⟩
    · rw [f2] at hb; cases hb
    · have hb':(V'.ov 1).ownBlock=some b:=hb
      rw [show V'.ov 1=_ from f2] at hb'; cases hb')
   refine ⟨_,V',rfl,e2.symm,?_⟩
   have:=hw2.kill 0
   rw [show c5 []=[] by simp [c5,Lib.compact,Lib.compactUpTo]]
   simpa [ct] using this
 · rw [e]
   refine (Tryz.slices_Compact_string g 0 cap l w hH (by omega) hn).mono fun e1 w' ⟨he,q,hw'⟩=>?_
   rw [show Lib.compact l=c5 l from rfl] at hw' he
   subst he; subst hw'
   have hdl:(c5 l++List.replicate (l.length - (c5 l).length) ([]:Str)).length=l.length:=by
    rw [ar,db]; omega
   have hpt:=vV (c5 l++List.replicate (l.length - (c5 l).length) []) cur (by omega)
   have hpt2:(Sort.putCells encStr 0 (c5 l++List.replicate (l.length - (c5 l).length) ([]:Str)).toArray cur).toList.take (c5 l).length=(c5 l).map encStr:=by
    have h2:=congrArg (List.take (c5 l).length) hpt
    rw [dn,hdl,cM hle,bP,List.take_append_of_le_length (by rw [aN]; exact aq _)] at h2
    rw [h2]; exact aW (by rw [aN]; exact aq _)
   obtain ⟨V',_,_,_,e2,hw2⟩:=hw.regrow rfl (aq _) (some 0) (c:=.own 9 .str (c5 l)) (v':=.slice (some ⟨g,0,none⟩) (c5 l).length cap) (s':=g)
    (w':=Sort.putRow encStr (Sort.ahead w q) g 0 (c5 l++List.replicate (l.length - (c5 l).length) ([]:Str)).toArray) (row:=some g)
    (fun b hb=>⟨0,_,rfl,rfl,by show (V.ov 0).ownBlock=_; rw [e]; exact hb⟩)
    ⟨rfl,rfl,rfl,by simp [Sort.putRow,Sort.mapBlock,Sort.ahead],fun k hk hne=>by
     have:g≠k:=fun e=>hne (by rw [e])
     simp [Sort.putRow,Sort.mapBlock,Sort.ahead,Array.getElem?_modify,this]⟩
    (fun V' hag hH f1 f2=>by
     refine ⟨⟨(c5 l).map encStr,⟨by simp [ETy.size],.inr ⟨g,cap,Sort.putCells encStr 0 (c5 l++List.replicate (l.length - (c5 l).length) ([]:Str)).toArray cur,f2,aQ _,?_,by omega,hm,?_,?_⟩⟩,?_,fun b hb=>?_⟩,fun b hb=>?_⟩
     · simp [Sort.putRow,Sort.mapBlock,Sort.ahead,Array.getElem?_modify,hg,Sort.onCells]
     · simp [Sort.putCells,hc,ETy.size]
     · simpa [ETy.size] using hpt2
     · rw [pU]; exact En _ _
     · rw [f2] at hb
       rw [f1]; simpa [Value.ownBlock] using hb
     · have hb':(V'.ov 1).ownBlock=some b:=hb
       rw [show V'.ov 1=_ from f2] at hb'
       exact .inl (by simpa [Value.ownBlock] using hb'))
   exact ⟨_,V',rfl,e2.symm,hw2⟩
def qB:Ent:=(136,fun
 | [.c (.own 0)],[.own 9 .str l]=>some (some (l.length≤1000000),.x (.c (.own 1)),[.dead,.own 9 .str (c5 l)])
 | _,_=>none)
theorem E9:EntOk Tryz.prog qB:=entOk fun vs ck=>by
 unfold qB; dsimp only; split
 · rename_i l; exact entS fun hp=>uu l hp
 · exact entN
def Jf:Cfg:=⟨aY,[oV,rM,qB]⟩
theorem G4:ag Tryz.prog Jf.tab:=(ag.cons Br (ag.cons C1 (ag.cons E9 ag.nil)))
end Go.Proofs.YtgfifkhbfdacjaaGreatDoor
