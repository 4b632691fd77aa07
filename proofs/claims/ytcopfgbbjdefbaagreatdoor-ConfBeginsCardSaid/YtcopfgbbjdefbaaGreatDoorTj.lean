/- Contracts: valid: a state's blocks, an event, a transition. Conditions: sizes. The library's contracts of the shelf, laid at this dump by the kit's tools. Conditions: each one's own. Contracts: slices.Clone, Sort and Compact on texts. Conditions: sizes. -/
import Derived.Test.YtcopfgbbjdefbaaGreatDoorTh
import Derived.Shelf.Lays
import Derived.Shelf.Sort.Plain
import Derived.Shelf.Slices.In.SortNone
import Derived.Shelf.Slices.CompactS
import Derived.Test.YtcopfgbbjdefbaaGreatDoorProg
namespace Go.Proofs.YtcopfgbbjdefbaaGreatDoor
open Go Go.Ev
set_option maxRecDepth 100000
def Da:Cfg:=⟨bb,[vS,kW]⟩
theorem BR:af Tryz.prog Da.tab:=(af.cons xv (af.cons mn af.nil))
variable (c:Chart) (i:Nat) (l:List Str) (s:Str) (t:Tran)
def cI (s:Ev.Stat):Int :=
 if (aQ s.kind&&decide (IntKind.wrap .i64 ((s.entry.length:Int)+(s.leave.length:Int))>0)||s.kind==4&&decide ((s.leave.length:Int)>0))=true then 1
 else if (bZ c.events c.vars s.entry != 0)=true then bZ c.events c.vars s.entry else bZ c.events c.vars s.leave
theorem FA (hi:i<c.states.length):ag Tryz.prog 101 [.e .chart c,.i (i:Int)] [] (.x (.i (cI c (ETy.get .stat c.states i)))) []:=by
 refine dg BR Tryz.func101 (let x1:=(ETy.get .stat c.states i); let x2:=(↑((Stat.leave x1).length):Int); .need (inRg i c.states.length) (.ite (aQ (Stat.kind x1)&&decide (IntKind.wrap .i64 ((↑((Stat.entry x1).length):Int)+x2)>(0:Int))||Stat.kind x1==(4:Int)&&decide (x2>0)) (.ret (.i 1) []) (.ite (bZ c.events c.vars (Stat.entry x1) != (0:Int)) (.ret (.i (bZ c.events c.vars (Stat.entry x1))) []) (.ret (.i (bZ c.events c.vars (Stat.leave x1))) [])))) fun Γ=>?_
 conv=>zeta
 refine ⟨⟨by omega,by omega⟩,?_⟩
 generalize ETy.get .stat c.states i=s
 refine ⟨fun h=>?_,fun h=>⟨fun h2=>?_,fun h2=>?_⟩⟩
 · unfold cI; rw [if_pos h]; exact ⟨rfl,rfl⟩
 · unfold cI; rw [if_neg (by rw [h]; decide),if_pos h2]; exact ⟨rfl,rfl⟩
 · unfold cI; rw [if_neg (by rw [h]; decide),if_neg (by rw [h2]; decide)]; exact ⟨rfl,rfl⟩
theorem CK (i:Int) (h:0≤i∧i<(c.states.length:Int)):ag Tryz.prog 101 [.e .chart c,.i i] [] (.x (.i (cI c (ETy.get .stat c.states i.toNat)))) []:=by
 obtain ⟨k,rfl⟩:=ay h.1
 rw [ai]
 exact FA c k (by omega)
def tA:Ent:=(101,fun
 | [.agg [.pd (.str a),.pd (.lst .str b),.pd (.lst .var c),.pd (.lst .stat d),.pd (.lst .tran e)],.c (.pd (.int .i64 i))],[]=>some (some (0≤i∧i<(d.length:Int)),.x (.c (.pd (.int .i64 (cI ⟨a,b,c,d,e⟩ (ETy.get .stat d i.toNat))))),[])
 | _,_=>none)
theorem FM:EntOk Tryz.prog tA:=entOk fun vs ck=>by
 unfold tA; dsimp only; split
 · rename_i a b c d e i; exact entS fun hp=>CK ⟨a,b,c,d,e⟩ i hp
 · exact entN
def GP:Cfg:=⟨bb,[eSc,jP,vi]⟩
theorem EI:af Tryz.prog GP.tab:=(af.cons uX (af.cons kB (af.cons xW af.nil)))
def mZ:Str:=[101,114,114,111,114]
def eH:Str:=[100,111,110,101,46]
def iw:Bool :=
 if (s==[]||s==mZ||c.events.any (fun x=>s==x))=true then true
 else dy s eH&&decide (aJ c.states (dw s eH)≥0)&&((ETy.get .stat c.states (aJ c.states (dw s eH)).toNat).kind==2||(ETy.get .stat c.states (aJ c.states (dw s eH)).toNat).kind==3)
theorem C3 {b:Bool} {i:Int} (h:(b&&decide (i≥0))=true):0≤i:=by
 rw [ae] at h; exact of_decide_eq_true h.2
theorem vj {l:List Ev.Stat} {n:Str} (h:0≤aJ l n):0≤aJ l n∧aJ l n<(l.length:Int):=by
 rcases iO l n with e | e
 · omega
 · exact e
theorem xh:ag Tryz.prog 146 [.e .chart c,.s s] [] (.x (.b (iw c s))) []:=by
 refine dg EI Tryz.func146 (let x1:=[(100:UInt8),111,110,101,46]; let x2:=(ETy.get .stat c.states ((aJ c.states (dw s x1)).toNat)); let x3:=(aJ c.states (dw s x1)≥(0:Int)); .ite (s==[]||s==[101,114,114,111,114]||List.any c.events fun x=>s==x) (.ret (.p (.bool true)) []) (.need ((dy s x1&&decide x3)=true→(0:Int)≤aJ c.states (dw s x1)∧aJ c.states (dw s x1)<(c.states.length:Int)) (.need ((dy s x1&&decide x3)=true∧(Stat.kind x2==(2:Int))=false→(0:Int)≤aJ c.states (dw s x1)∧aJ c.states (dw s x1)<(c.states.length:Int)) (.ret (.p (.bool (dy s x1&&decide x3&&(Stat.kind x2==(2:Int)||Stat.kind x2==(3:Int))))) [])))) fun Γ=>?_
 conv=>zeta
 refine ⟨fun h=>?_,fun h=>⟨fun h1=>vj (C3 h1),fun h1=>vj (C3 h1.1),?_⟩⟩
 · have h':(s==[]||s==mZ||c.events.any fun x=>s==x)=true:=h
   unfold iw; rw [if_pos h']; exact ⟨rfl,rfl⟩
 · have h':(s==[]||s==mZ||c.events.any fun x=>s==x)=false:=h
   unfold iw; rw [if_neg (by rw [h']; decide)]; exact ⟨rfl,rfl⟩
def A5:Ent:=(146,fun
 | [.agg [.pd (.str a),.pd (.lst .str b),.pd (.lst .var c),.pd (.lst .stat d),.pd (.lst .tran e)],.c (.pd (.str s))],[]=>some (none,.x (.c (.pd (.bool (iw ⟨a,b,c,d,e⟩ s)))),[])
 | _,_=>none)
theorem H6:EntOk Tryz.prog A5:=entOk fun vs ck=>by
 unfold A5; dsimp only; split
 · rename_i a b c d e s; exact entS fun hp=>xh ⟨a,b,c,d,e⟩ s
 · exact entN
def GI:Cfg:=⟨bb,[vS,jP,nL,eOf,A5]⟩
theorem EU:af Tryz.prog GI.tab:=(af.cons xv (af.cons kB (af.cons Af (af.cons Bp (af.cons H6 af.nil)))))
def eX:Int :=
 if (!(t.dst==[]))=true then (if decide (aJ c.states t.dst<0)=true then 2
  else if decide (l8 c.states t.src (aJ c.states t.dst)<0)=true then 9 else bZ c.events c.vars t.acts)
 else bZ c.events c.vars t.acts
def gZ:Bool :=
 decide (t.src<0)||decide (t.src≥(c.states.length:Int))||decide ((i:Int)>0)&&decide (t.src<(ETy.get .tran c.trans (IntKind.wrap .i64 ((i:Int) - 1)).toNat).src)||decide ((ETy.get .stat c.states t.src.toNat).kind>3)
def cM (real:List Str) (t:Tran):Int :=
 if gZ c i t=true then 1
 else if (!iw c t.event)=true then 2
 else if decide ((t.guard.length:Int)>0)=true then
  (if ((bY t.guard c.vars real).2 != 0)=true then (bY t.guard c.vars real).2
   else if ((bY t.guard c.vars real).1 != 2)=true then 8 else eX c t)
 else eX c t
theorem Ii (hi:i<c.trans.length) (hl:c.states.length≤maxLen) (ht:c.trans.length≤maxLen):ag Tryz.prog 103 [.e .chart c,.i (i:Int),.l .str l] [] (.x (.i (cM c i l (ETy.get .tran c.trans i)))) []:=by
 refine dg EU Tryz.func103 (let x1:=(ETy.get .tran c.trans i); let x7:Tree:=(.ret (.i (bZ c.events c.vars (Tran.acts x1))) []); let x2:Tree:=(.ite (!Tran.dst x1==[]) (.ite (decide (aJ c.states (Tran.dst x1)<(0:Int))) (.ret (.i 2) []) (.need (c.states.length≤maxLen) (.ite (decide (l8 c.states (Tran.src x1) (aJ c.states (Tran.dst x1))<(0:Int))) (.ret (.i 9) []) x7))) x7); let x3:=(Tran.src x1<Tran.src (ETy.get .tran c.trans ((IntKind.wrap .i64 ((i:Int) - 1)).toNat))); let x4:=(Tran.src x1≥(c.states.length:Int)); let x5:=(bY (Tran.guard x1) c.vars l); let x6:=(Tran.src x1<(0:Int)); .need (inRg i c.trans.length) (.need ((((14,30,true,dN true (decide ((i:Int)>0)) (some (11,27,false,dN false (decide x6||decide x4) none))).2).2).2→(0:Int)≤IntKind.wrap .i64 ((i:Int) - 1)∧IntKind.wrap .i64 ((i:Int) - 1)<(c.trans.length:Int)) (.need ((((27,43,false,dN false (decide x6||decide x4||decide ((i:Int)>0)&&decide x3) none).2).2).2→(0:Int)≤Tran.src x1∧Tran.src x1<(c.states.length:Int)) (.ite (decide x6||decide x4||decide ((i:Int)>0)&&decide x3||decide (Stat.kind (ETy.get .stat c.states ((Tran.src x1).toNat))>(3:Int))) (.ret (.i 1) []) (.ite (!iw c (Tran.event x1)) (.ret (.i 2) []) (.ite (decide ((↑((Tran.guard x1).length):Int)>0)) (.ite (x5.2 != (0:Int)) (.ret (.i (x5.2)) []) (.ite (x5.1 != (2:Int)) (.ret (.i 8) []) x2)) x2)))))) fun Γ=>?_
 conv=>zeta
 refine ⟨⟨by omega,by omega⟩,fun h=>?_,?_⟩
 · have h1:decide ((i:Int)>0)=true:=h.2
   have:=of_decide_eq_true h1
   have hm:maxLen≤9223372036854775807:=by decide
   rw [ct (by omega) (by omega)]; omega
 generalize ETy.get .tran c.trans i=t
 have no:∀ {b:Bool},b=false→¬b=true:=fun h e=>by rw [h] at e; cases e
 refine ⟨fun h=>?_,fun h1=>?_,fun h1=>⟨fun h2=>?_,fun h2=>⟨fun h3=>⟨fun h4=>?_,fun h4=>⟨fun h5=>?_,fun h5=>⟨fun h6=>⟨fun h7=>?_,fun h7=>⟨hl,fun h8=>?_,fun h8=>?_⟩⟩,fun h6=>?_⟩⟩⟩,fun h3=>⟨fun h6=>⟨fun h7=>?_,fun h7=>⟨hl,fun h8=>?_,fun h8=>?_⟩⟩,fun h6=>?_⟩⟩⟩⟩
 · have h1:(decide (t.src<0)||decide (t.src≥(c.states.length:Int))||decide ((i:Int)>0)&&decide (t.src<(ETy.get .tran c.trans (IntKind.wrap .i64 ((i:Int) - 1)).toNat).src))=false:=h
   rw [an,an] at h1
   have:=of_decide_eq_false h1.1.1
   have:=of_decide_eq_false h1.1.2
   omega
 · have hb:gZ c i t=true:=h1
   unfold cM; rw [if_pos hb]; exact ⟨rfl,rfl⟩
 all_goals
  have hb:gZ c i t=false:=h1
  unfold cM; rw [if_neg (no hb)]
 · rw [if_pos h2]; exact ⟨rfl,rfl⟩
 all_goals rw [if_neg (no h2)]
 · rw [if_pos h3,if_pos h4]; exact ⟨rfl,rfl⟩
 · rw [if_pos h3,if_neg (no h4),if_pos h5]; exact ⟨rfl,rfl⟩
 · rw [if_pos h3,if_neg (no h4),if_neg (no h5)]; unfold eX; rw [if_pos h6,if_pos h7]; exact ⟨rfl,rfl⟩
 · rw [if_pos h3,if_neg (no h4),if_neg (no h5)]; unfold eX; rw [if_pos h6,if_neg (no h7),if_pos h8]; exact ⟨rfl,rfl⟩
 · rw [if_pos h3,if_neg (no h4),if_neg (no h5)]; unfold eX; rw [if_pos h6,if_neg (no h7),if_neg (no h8)]; exact ⟨rfl,rfl⟩
 · rw [if_pos h3,if_neg (no h4),if_neg (no h5)]; unfold eX; rw [if_neg (no h6)]; exact ⟨rfl,rfl⟩
 · rw [if_neg (no h3)]; unfold eX; rw [if_pos h6,if_pos h7]; exact ⟨rfl,rfl⟩
 · rw [if_neg (no h3)]; unfold eX; rw [if_pos h6,if_neg (no h7),if_pos h8]; exact ⟨rfl,rfl⟩
 · rw [if_neg (no h3)]; unfold eX; rw [if_pos h6,if_neg (no h7),if_neg (no h8)]; exact ⟨rfl,rfl⟩
 · rw [if_neg (no h3)]; unfold eX; rw [if_neg (no h6)]; exact ⟨rfl,rfl⟩
theorem Fo (i:Int) (l:List Str) (h:0≤i∧i<(c.trans.length:Int)∧c.states.length≤maxLen∧c.trans.length≤maxLen):ag Tryz.prog 103 [.e .chart c,.i i,.l .str l] [] (.x (.i (cM c i.toNat l (ETy.get .tran c.trans i.toNat)))) []:=by
 obtain ⟨k,rfl⟩:=ay h.1
 rw [ai]
 exact Ii c k l (by omega) h.2.2.1 h.2.2.2
def Ab:Ent:=(103,fun
 | [.agg [.pd (.str a),.pd (.lst .str b),.pd (.lst .var c),.pd (.lst .stat d),.pd (.lst .tran e)],.c (.pd (.int .i64 i)),.c (.pd (.lst .str l))],[]=>some (some (0≤i∧i<(e.length:Int)∧d.length≤maxLen∧e.length≤maxLen),.x (.c (.pd (.int .i64 (cM ⟨a,b,c,d,e⟩ i.toNat l (ETy.get .tran e i.toNat))))),[])
 | _,_=>none)
theorem HC:EntOk Tryz.prog Ab:=entOk fun vs ck=>by
 unfold Ab; dsimp only; split
 · rename_i a b c d e i l; exact entS fun hp=>Fo ⟨a,b,c,d,e⟩ i l hp
 · exact entN
end Go.Proofs.YtcopfgbbjdefbaaGreatDoor
namespace Go.Proofs
open Go.Shelf
def Tryz.lays190_ren:Go.Shelf.Ren:=⟨fun | 190=>139 | 125=>109 | 258=>181 | 128=>160 | 129=>161 | 302=>228 | 303=>229 | 304=>230 | 305=>231 | 306=>232 | 307=>233 | 308=>234 | 309=>235 | 310=>236 | 333=>262 | 329=>190 | 330=>191 | 334=>263 | 335=>264 | 336=>265 | 344=>280 | n=>n,fun | 31=>22 | 9=>9 | 3=>3 | 46=>112 | 0=>0 | 51=>168 | 53=>170 | 4=>4 | 183=>160 | 182=>159 | 131=>165 | 5=>5 | 218=>202 | 222=>206 | 228=>239 | 229=>58 | n=>n,fun | n=>n⟩
theorem Tryz.lays190:Go.Proofs.Lays.n190 Tryz.prog Tryz.lays190_ren:={
 mixed:=by kernel_rfl
 f125:=Tryz.func109.trans (congrArg some (by kernel_rfl))
 f128:=Tryz.func160.trans (congrArg some (by kernel_rfl))
 f129:=Tryz.func161.trans (congrArg some (by kernel_rfl))
 f190:=Tryz.func139.trans (congrArg some (by kernel_rfl))
 f258:=Tryz.func181.trans (congrArg some (by kernel_rfl))
 f302:=Tryz.func228.trans (congrArg some (by kernel_rfl))
 f303:=Tryz.func229.trans (congrArg some (by kernel_rfl))
 f304:=Tryz.func230.trans (congrArg some (by kernel_rfl))
 f305:=Tryz.func231.trans (congrArg some (by kernel_rfl))
 f306:=Tryz.func232.trans (congrArg some (by kernel_rfl))
 f307:=Tryz.func233.trans (congrArg some (by kernel_rfl))
 f308:=Tryz.func234.trans (congrArg some (by kernel_rfl))
 f309:=Tryz.func235.trans (congrArg some (by kernel_rfl))
 f310:=Tryz.func236.trans (congrArg some (by kernel_rfl))
 f329:=Tryz.func190.trans (congrArg some (by kernel_rfl))
 f330:=Tryz.func191.trans (congrArg some (by kernel_rfl))
 f333:=Tryz.func262.trans (congrArg some (by kernel_rfl))
 f334:=Tryz.func263.trans (congrArg some (by kernel_rfl))
 f335:=Tryz.func264.trans (congrArg some (by kernel_rfl))
 f336:=Tryz.func265.trans (congrArg some (by kernel_rfl))
 f344:=Tryz.func280.trans (congrArg some (by kernel_rfl))
 t0:=Tryz.underlying0
 a0:=Tryz.isAgg0
 z0:=Tryz.sizeOf0
 v0:=Tryz.zeroValue0
 t3:=Tryz.underlying3
 a3:=Tryz.isAgg3
 z3:=Tryz.sizeOf3
 v3:=Tryz.zeroValue3
 t4:=Tryz.underlying4
 a4:=Tryz.isAgg4
 z4:=Tryz.sizeOf4
 v4:=Tryz.zeroValue4
 t5:=Tryz.underlying5
 a5:=Tryz.isAgg5
 z5:=Tryz.sizeOf5
 v5:=Tryz.zeroValue5
 t9:=Tryz.underlying9
 a9:=Tryz.isAgg9
 z9:=Tryz.sizeOf9
 v9:=Tryz.zeroValue9
 t31:=Tryz.underlying22
 a31:=Tryz.isAgg22
 z31:=Tryz.sizeOf22
 v31:=Tryz.zeroValue22
 t46:=Tryz.underlying112
 a46:=Tryz.isAgg112
 z46:=Tryz.sizeOf112
 v46:=Tryz.zeroValue112
 t51:=Tryz.underlying168
 a51:=Tryz.isAgg168
 z51:=Tryz.sizeOf168
 v51:=Tryz.zeroValue168
 t53:=Tryz.underlying170
 a53:=Tryz.isAgg170
 z53:=Tryz.sizeOf170
 v53:=Tryz.zeroValue170
 t131:=Tryz.underlying165
 a131:=Tryz.isAgg165
 z131:=Tryz.sizeOf165
 v131:=Tryz.zeroValue165
 t182:=Tryz.underlying159
 a182:=Tryz.isAgg159
 z182:=Tryz.sizeOf159
 v182:=Tryz.zeroValue159
 t183:=Tryz.underlying160
 a183:=Tryz.isAgg160
 z183:=Tryz.sizeOf160
 v183:=Tryz.zeroValue160
 t218:=Tryz.underlying202
 a218:=Tryz.isAgg202
 z218:=Tryz.sizeOf202
 v218:=Tryz.zeroValue202
 t222:=Tryz.underlying206
 a222:=Tryz.isAgg206
 z222:=Tryz.sizeOf206
 v222:=Tryz.zeroValue206
 t228:=Tryz.underlying239
 a228:=Tryz.isAgg239
 z228:=Tryz.sizeOf239
 v228:=Tryz.zeroValue239
 t229:=Tryz.underlying58
 a229:=Tryz.isAgg58
 z229:=Tryz.sizeOf58
 v229:=Tryz.zeroValue58 }
def Tryz.lays194_ren:Go.Shelf.Ren:=⟨fun | 194=>140 | n=>n,fun | 31=>22 | 9=>9 | 3=>3 | 4=>4 | 0=>0 | n=>n,fun | n=>n⟩
theorem Tryz.lays194:Go.Proofs.Lays.n194 Tryz.prog Tryz.lays194_ren:={
 mixed:=by kernel_rfl
 f194:=Tryz.func140.trans (congrArg some (by kernel_rfl))
 t0:=Tryz.underlying0
 a0:=Tryz.isAgg0
 z0:=Tryz.sizeOf0
 v0:=Tryz.zeroValue0
 t3:=Tryz.underlying3
 a3:=Tryz.isAgg3
 z3:=Tryz.sizeOf3
 v3:=Tryz.zeroValue3
 t4:=Tryz.underlying4
 a4:=Tryz.isAgg4
 z4:=Tryz.sizeOf4
 v4:=Tryz.zeroValue4
 t9:=Tryz.underlying9
 a9:=Tryz.isAgg9
 z9:=Tryz.sizeOf9
 v9:=Tryz.zeroValue9
 t31:=Tryz.underlying22
 a31:=Tryz.isAgg22
 z31:=Tryz.sizeOf22
 v31:=Tryz.zeroValue22 }
open Go.Sort Go.RowKit in
theorem Tryz.slices_Sort_string (blk off cap:Nat) (ss:List (List UInt8)) (w:World) (hH:Holds encStr w blk off ss.toArray) (hblk:blk<w.heap.size) (hsz:ss.length<4611686018427387904) :
 Calls Tryz.prog 139 #[.slice (some ⟨blk,off,none⟩) ss.length cap] w fun e w' =>
  e = .returned (.tuple #[])∧∃ n os,w'=grow (putRow encStr (Sort.ahead w n) blk off (ss.mergeSort fun x y=>decide (x≤y)).toArray) os:=Any.slices_Sort_string Tryz.lays190 blk off cap ss w hH hblk hsz
open Go.RowKit Go.Lib Go.Sort in
theorem Tryz.slices_Compact_string (blk off cap:Nat) (zs:List (List UInt8)) (w:World) (hH:Holds encStr w blk off zs.toArray) (hsz:zs.length≤9223372036854775807) (hcap:zs.length≤cap) :
 Calls Tryz.prog 140 #[.slice (some ⟨blk,off,none⟩) zs.length cap] w fun e w'=>e = .returned (.slice (some ⟨blk,off,none⟩) (Lib.compact zs).length cap)∧∃ q,w'=putRow encStr (Sort.ahead w q) blk off (Lib.compact zs++List.replicate (zs.length - (Lib.compact zs).length) []).toArray:=Any.slices_Compact_string Tryz.lays194 blk off cap zs w hH hsz hcap
open Go.RowKit Go.Lib Go.Sort in
theorem Tryz.slices_Compact_string_empty (a:Option Addr) (cap:Nat) (w:World) :
 Calls Tryz.prog 140 #[.slice a 0 cap] w fun e w'=>e = .returned (.slice a 0 cap)∧w'=w:=Any.slices_Compact_string_empty Tryz.lays194 a cap w
open Go.RowKit Go.Sort in
theorem Tryz.slices_Sort_string_none (p:Option Addr) (cap:Nat) (w:World) :
 Calls Tryz.prog 139 #[.slice p 0 cap] w fun e w'=>e = .returned (.tuple #[])∧w'=w:=Any.slices_Sort_string_none Tryz.lays190 p cap w
end Go.Proofs
namespace Go.Proofs.YtcopfgbbjdefbaaGreatDoor
open Go Go.Ev
set_option maxRecDepth 100000
variable (l:List Str)
theorem xi (h:room l.length 16):ag Tryz.prog 138 [.l .str l] [] (.x (.c (.own 0))) [.own 9 .str l]:=by
 refine ag.nilOwn Tryz.func138 (by kernel_rfl) (by kernel_rfl) fun Γ=>?_
 refine jg aT Tryz.func138 (.stop [.ops [1,0,0] 1,.code [1,0,1],.code [1,1]] { n:=8,fr:=[(0,.p (.lst .str l)),(2,.p (.v (Value.slice none 0 0))),(3,.p (.lst .str l))],ck:=[] }) ?_
 refine J.isNil (d:=4) (s:=3) (t:=.str) (l:=l) (by kernel_rfl) rfl (fun h0=>?_) ?_
 · refine jg aT Tryz.func138 (.ite true (.ret (.p (.v (Value.slice none 0 0))) []) (.need (room (([]++l).length) 16) (.ret (.x (.c (.own 0))) [.own 9 .str ([]++l)]))) ?_
   exact ⟨fun _=>.inr ⟨h0,rfl,rfl⟩,fun h=>Bool.noConfusion h⟩
 · refine jg aT Tryz.func138 (.ite false (.ret (.p (.v (Value.slice none 0 0))) []) (.need (room (([]++l).length) 16) (.ret (.x (.c (.own 0))) [.own 9 .str ([]++l)]))) ?_
   exact ⟨fun h=>Bool.noConfusion h,fun _=>⟨h,.inl ⟨rfl,rfl⟩⟩⟩
def nT:Ent:=(138,fun
 | [.c (.pd (.lst .str l))],[]=>some (some (room l.length 16),.x (.c (.own 0)),[.own 9 .str l])
 | _,_=>none)
theorem AN:EntOk Tryz.prog nT:=entOk fun vs ck=>by
 unfold nT; dsimp only; split
 · rename_i l; exact entS fun hp=>xi l hp
 · exact entN
theorem oZ:l.flatMap (ETy.enc .str)=l.map PD.str:=by
 induction l with
 | nil=>rfl
 | cons a l ih=>rw [bg,au,ih]; rfl
theorem BL (H:Mem) (l:List Str):All2 (PR H) (l.map PD.str) (l.map encStr):=by
 induction l with
 | nil=>exact .nil
 | cons a l ih=>exact .cons (PR.str a) ih
theorem xV {H:Mem}:∀ {l:List Str} {xs:List Value},All2 (PR H) (l.map PD.str) xs→xs=l.map encStr
 | [],_,h=>by cases h; rfl
 | a :: l,_,h=>by
   cases h with
   | cons a1 h =>
     rw [xV h,au]
     cases a1; rfl
theorem wa (d:List Str) (cur:Array Value) (h:d.length≤cur.size):(Sort.putCells encStr 0 d.toArray cur).toList.take d.length=d.map encStr:=by
 refine List.ext_getElem? fun k=>?_
 rw [List.getElem?_take,List.getElem?_map]
 by_cases hk:k<d.length
 · rw [if_pos hk]
   simp only [Sort.putCells,Array.toList_mapIdx,List.getElem?_mapIdx,Array.getElem?_toList]
   rw [Array.getElem?_eq_getElem (by omega),br,if_pos ⟨aO _,by simpa using hk⟩,List.getElem?_eq_getElem hk]
   simp [hk]
 · rw [if_neg hk,List.getElem?_eq_none (by omega)]; rfl
def eO:List Str:=l.mergeSort fun x y=>decide (x≤y)
theorem xI {V:Vn} {vs:List Value} {i:Nat} (hv:All2 (SX.R V) [.c (.own i)] vs):vs=[V.ov i]:=by
 cases hv with
 | cons a1 hv =>
   cases hv
   have h:_=V.ov i:=a1
   rw [h]
theorem Ig {Γ:Ctx} {T:TypeId} {l:List Str} {V:Vn} {w:World} (r:WOk Γ [.own T .str l] V w) {g n cap:Nat} {cur:Array Value} (ho:V.ov 0 = .slice (some ⟨g,0,none⟩) n cap)
 (hg:w.heap[g]?=some (.cells cur T (0,0))) (hn:n≤cap) (hm:cap≤maxLen) (hc:cur.size=cap * 1) (hs:V.σ 0=g) (d l':List Str) (hd:d.length=n) (hl:d=l') (hln:l.length=n) (q:Nat) :
 WOk Γ [.own T .str l'] V (Sort.putRow encStr (Sort.ahead w q) g 0 d.toArray):=by
 subst hl
 have hblk:(Chunk.own T .str l).blk V 0=some g:=by show (V.ov 0).ownBlock=_; rw [ho]; rfl
 refine WOk.rewrite r (i:=0) (c:=.own T .str l) rfl (.own T .str d) ⟨rfl,rfl,rfl,by simp [Sort.putRow,Sort.mapBlock,Sort.ahead]⟩ (fun b hb=>?_) rfl ?_
 · rw [hblk] at hb
   have:g≠b:=fun e=>hb (by rw [e])
   simp [Sort.putRow,Sort.mapBlock,Sort.ahead,Array.getElem?_modify,this]
 · refine ⟨d.map encStr,⟨by simp [ETy.size],.inr ⟨g,cap,Sort.putCells encStr 0 d.toArray cur,by rw [ho,hd],aO _,?_,by omega,hm,?_,?_⟩⟩,?_,fun b hb=>?_⟩
   · simp [Sort.putRow,Sort.mapBlock,Sort.ahead,Array.getElem?_modify,hg,Sort.onCells]
   · simp [Sort.putCells,hc,ETy.size]
   · have:=wa d cur (by omega)
     simpa [ETy.size] using this
   · rw [oZ]; exact BL _ _
   · rw [ho] at hb
     rw [hs]; simpa [Value.ownBlock] using hb
theorem xq {T:TypeId} {l:List Str} {V:Vn} {w:World} (h:(Chunk.own T .str l).holds V w 0):(V.ov 0 = .slice none 0 0∧l=[]) ∨
 ∃ g cap cur,V.ov 0 = .slice (some ⟨g,0,none⟩) l.length cap∧w.heap[g]?=some (.cells cur T (0,0))∧l.length≤cap∧cap≤maxLen∧cur.size=cap * 1∧V.σ 0=g∧Sort.Holds encStr w g 0 l.toArray:=by
 obtain ⟨xs,⟨h1,h2⟩,h3,h4⟩:=h
 rw [oZ] at h3
 have hx:=xV h3
 rcases h2 with ⟨e,e0⟩ | ⟨g,cap,cur,e,_,hg,hn,hm,hc,ht⟩
 · exact .inl ⟨e,er.1 e0⟩
 · refine .inr ⟨g,cap,cur,e,hg,hn,hm,hc,h4 g (by rw [e]; rfl),fun j hj=>?_⟩
   have hj':j<l.length:=by simpa using hj
   have hsz:(ETy.size .str)=1:=rfl
   have hk:cur.toList[j]?=some (encStr l[j]):=by
    have:(cur.toList.take (l.length * ETy.size .str))[j]?=(l.map encStr)[j]?:=by rw [ht,hx]
    rw [List.getElem?_take,if_pos (by rw [hsz]; omega),List.getElem?_map,List.getElem?_eq_getElem hj'] at this
    exact this
   refine ⟨?_,?_⟩
   · simp only [World.cell?,hg,aU]
     rw [← Array.getElem?_toList,hk]
     simp [hj']
   · simp [World.frozen?,hg]
theorem Ba (h:l.length≤1000000):ag Tryz.prog 139 [.c (.own 0)] [.own 9 .str l] (.tup []) [.own 9 .str (eO l)]:=by
 intro w V vs hw hT hv
 rw [xI hv]
 have hh:=hw.own 0 _ rfl
 rcases xq hh with ⟨e,e0⟩ | ⟨g,cap,cur,e,hg,hn,hm,hc,hs,hH⟩
 · rw [e]
   refine (Tryz.slices_Sort_string_none none 0 w).mono fun e w' ⟨he,hw'⟩=>?_
   subst he; subst hw'
   subst e0
   exact ⟨_,V,rfl,⟨[],rfl,.nil⟩,by rw [show eO []=[] from List.mergeSort_nil]; exact hw⟩
 · rw [e]
   have hb:=(Array.getElem?_eq_some_iff.1 hg).1
   refine (Tryz.slices_Sort_string g 0 cap l w hH hb (by omega)).mono fun e1 w' ⟨he,q,os,hw'⟩=>?_
   rw [show (l.mergeSort fun x y=>decide (x≤y))=eO l from rfl] at hw'
   subst he; subst hw'
   refine ⟨_,V,rfl,⟨[],rfl,.nil⟩,?_⟩
   have h1:=Ig hw e hg hn hm hc hs (eO l) (eO l) (List.length_mergeSort l) rfl rfl q
   refine h1.kept ⟨rfl,rfl,rfl,?_,fun k hk _=>?_⟩
   · show _≤(_++_:Array Obj).size
     rw [eF]; omega
   · show (_++_:Array Obj)[k]?=_
     rw [Array.getElem?_append_left hk]
def pT:Ent:=(139,fun
 | [.c (.own 0)],[.own 9 .str l]=>some (some (l.length≤1000000),.tup [],[.own 9 .str (eO l)])
 | _,_=>none)
theorem Cc:EntOk Tryz.prog pT:=entOk fun vs ck=>by
 unfold pT; dsimp only; split
 · rename_i l; exact entS fun hp=>Ba l hp
 · exact entN
def cT:List Str:=Lib.compact l
theorem Ee:(cT l).length≤l.length:=by
 unfold cT Lib.compact Lib.compactUpTo
 rw [aL]
 exact aw (bK _ _) (by rw [eG]; exact aq _)
theorem sN (h:l.length≤1000000):ag Tryz.prog 140 [.c (.own 0)] [.own 9 .str l] (.x (.c (.own 1))) [.dead,.own 9 .str (cT l)]:=by
 intro w V vs hw hT hv
 rw [xI hv]
 have hh:=hw.own 0 _ rfl
 have hle:=Ee l
 rcases xq hh with ⟨e,e0⟩ | ⟨g,cap,cur,e,hg,hn,hm,hc,hs,hH⟩
 · rw [e]
   refine (Tryz.slices_Compact_string_empty none 0 w).mono fun e1 w' ⟨he,hw'⟩=>?_
   subst he; subst hw'
   subst e0
   obtain ⟨V',_,_,_,e2,hw2⟩:=hw.regrow rfl (aq _) none (c:=.own 9 .str []) (v':=.slice none 0 0) (s':=0) (w':=w') (row:=none) (by simp) (World.grownBy.refl _ _) (fun V' hag hH f1 f2=>by
    refine ⟨⟨[],⟨rfl,.inl ⟨f2,rfl⟩⟩,.nil,fun b hb=>?_⟩,fun b hb=>?_⟩
    · rw [f2] at hb; cases hb
    · have hb':(V'.ov 1).ownBlock=some b:=hb
      rw [show V'.ov 1=_ from f2] at hb'; cases hb')
   refine ⟨_,V',rfl,e2.symm,?_⟩
   have:=hw2.kill 0
   rw [show cT []=[] by simp [cT,Lib.compact,Lib.compactUpTo]]
   simpa [cj] using this
 · rw [e]
   refine (Tryz.slices_Compact_string g 0 cap l w hH (by omega) hn).mono fun e1 w' ⟨he,q,hw'⟩=>?_
   rw [show Lib.compact l=cT l from rfl] at hw' he
   subst he; subst hw'
   have hdl:(cT l++List.replicate (l.length - (cT l).length) ([]:Str)).length=l.length:=by
    rw [ar,List.length_replicate]; omega
   have hpt:=wa (cT l++List.replicate (l.length - (cT l).length) []) cur (by omega)
   have hpt2:(Sort.putCells encStr 0 (cT l++List.replicate (l.length - (cT l).length) ([]:Str)).toArray cur).toList.take (cT l).length=(cT l).map encStr:=by
    have h2:=congrArg (List.take (cT l).length) hpt
    rw [dj,hdl,cH hle,bT,List.take_append_of_le_length (by rw [aL]; exact aq _)] at h2
    rw [h2]; exact aY (by rw [aL]; exact aq _)
   obtain ⟨V',_,_,_,e2,hw2⟩:=hw.regrow rfl (aq _) (some 0) (c:=.own 9 .str (cT l)) (v':=.slice (some ⟨g,0,none⟩) (cT l).length cap) (s':=g)
    (w':=Sort.putRow encStr (Sort.ahead w q) g 0 (cT l++List.replicate (l.length - (cT l).length) ([]:Str)).toArray) (row:=some g)
    (fun b hb=>⟨0,_,rfl,rfl,by show (V.ov 0).ownBlock=_; rw [e]; exact hb⟩)
    ⟨rfl,rfl,rfl,by simp [Sort.putRow,Sort.mapBlock,Sort.ahead],fun k hk hne=>by
     have:g≠k:=fun e=>hne (by rw [e])
     simp [Sort.putRow,Sort.mapBlock,Sort.ahead,Array.getElem?_modify,this]⟩
    (fun V' hag hH f1 f2=>by
     refine ⟨⟨(cT l).map encStr,⟨by simp [ETy.size],.inr ⟨g,cap,Sort.putCells encStr 0 (cT l++List.replicate (l.length - (cT l).length) ([]:Str)).toArray cur,f2,aO _,?_,by omega,hm,?_,?_⟩⟩,?_,fun b hb=>?_⟩,fun b hb=>?_⟩
     · simp [Sort.putRow,Sort.mapBlock,Sort.ahead,Array.getElem?_modify,hg,Sort.onCells]
     · simp [Sort.putCells,hc,ETy.size]
     · simpa [ETy.size] using hpt2
     · rw [oZ]; exact BL _ _
     · rw [f2] at hb
       rw [f1]; simpa [Value.ownBlock] using hb
     · have hb':(V'.ov 1).ownBlock=some b:=hb
       rw [show V'.ov 1=_ from f2] at hb'
       exact .inl (by simpa [Value.ownBlock] using hb'))
   exact ⟨_,V',rfl,e2.symm,hw2⟩
def p7:Ent:=(140,fun
 | [.c (.own 0)],[.own 9 .str l]=>some (some (l.length≤1000000),.x (.c (.own 1)),[.dead,.own 9 .str (cT l)])
 | _,_=>none)
theorem CX:EntOk Tryz.prog p7:=entOk fun vs ck=>by
 unfold p7; dsimp only; split
 · rename_i l; exact entS fun hp=>sN l hp
 · exact entN
def GG:Cfg:=⟨bb,[nT,pT,p7]⟩
theorem FG:af Tryz.prog GG.tab:=(af.cons AN (af.cons Cc (af.cons CX af.nil)))
end Go.Proofs.YtcopfgbbjdefbaaGreatDoor
