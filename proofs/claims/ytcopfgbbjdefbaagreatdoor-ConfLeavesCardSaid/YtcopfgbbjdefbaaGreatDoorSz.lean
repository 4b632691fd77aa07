/- Contracts: conf: Legal; the document's Active. Conditions: sizes. The library's contracts of the shelf, laid at this dump by the kit's tools. Conditions: each one's own. Contracts: strings.Split at line feeds. Conditions: texts that are not too long; the library's variable. -/
import Derived.Test.YtcopfgbbjdefbaaGreatDoorCl
import Derived.Shelf.LaysM
import Derived.Shelf.Strings.Split
import Derived.Test.YtcopfgbbjdefbaaGreatDoorProg
import Derived.Test.YtcopfgbbjdefbaaGreatDoorVk
import Derived.Test.YtcopfgbbjdefbaaGreatDoorTa
namespace Go.Proofs.YtcopfgbbjdefbaaGreatDoor
open Go Go.Ev
set_option maxRecDepth 100000
def Dl:Cfg:=⟨aX,[me,oS]⟩
theorem Em:ag Tryz.prog Dl.tab:=(ag.cons qL (ag.cons CE ag.nil))
variable (c:Chart) (s:List Int)
theorem pE (hz:c.vars.length≤2199023255552∧c.states.length≤2199023255552):ah Tryz.prog 14 [.e .chart c,.l .int s] [] (.x (.b (bj c==0&&bb c.states s))) []:=by
 refine dg Em Tryz.func14 (.need (c.vars.length≤2199023255552∧c.states.length≤2199023255552) (.need ((bj c==(0:Int))=true→Tre c.states) (.ret (.p (.bool (bj c==(0:Int)&&bb c.states s))) []))) fun Γ=>?_
 exact ⟨hz,fun h=>((c8 c).1 (eq_of_beq h)).tre,rfl,rfl⟩
def kb:Ent:=(14,fun
 | [.agg [.pd (.str a),.pd (.lst .str b),.pd (.lst .var c),.pd (.lst .stat d),.pd (.lst .tran e)],.c (.pd (.lst .int s))],[]=>some (some (c.length≤2199023255552∧d.length≤2199023255552),.x (.c (.pd (.bool (bj ⟨a,b,c,d,e⟩==0&&bb d s)))),[])
 | _,_=>none)
theorem mS:EntOk Tryz.prog kb:=entOk fun vs ck=>by
 unfold kb; dsimp only; split
 · rename_i a b c d e s; exact entS fun hp=>pE ⟨a,b,c,d,e⟩ s hp
 · exact entN
def yb:Cfg:=⟨aX,[kO,si]⟩
theorem tU:ag Tryz.prog yb.tab:=(ag.cons lu (ag.cons sJ ag.nil))
abbrev zCm2:List PI:=[.code [1,1,1,0,1,0,0],.inLoop [1,1,1,0,1,0,0],.inBlock 0,.code [1,1,1,1]]
theorem Gt (c:Chart) (a ks:List Int) (m:Nat) (hl:ks.length≤1000) (Γ:Ctx):∀ (n k:Nat),ks.length - k≤n→k≤ks.length →
 J Tryz.prog 37 (aw Tryz.f37) Γ (Eq2 (.tup [.i (db a ks:Int),.i (ks.length:Int)]) []) zCm2 ({ n:=32,fr:=[(1,.p (.lst .int a)),(6,.i 0),(7,.i 0),(8,.x (.c (.own 0))),(9,.i ((db a (ks.take k):Int))),(10,.i ((k:Int)))],ck:=[.own 3 .int ks] }):=by
 have hm:ks.length≤maxLen:=by unfold maxLen; omega
 intro n
 induction n with
 | zero=>?_
 | succ n ih=>?_
 all_goals
  intro k hn hk
  generalize hac:(db a (ks.take k):Int)=q
  refine jg tU Tryz.func37 (let x1:List PI:=zCm2; let x2:=(IntKind.wrap .i64 ((k:Int)+1)); .ite (decide ((k:Int)<(ks.length:Int))) (.need (inRg k ks.length) (.need (k<ks.length) (.ite (inB a (ETy.get .int ks k)) (.stop x1 { n:=32,fr:=[(1,.p (.lst .int a)),(6,.i 0),(7,.i 0),(8,.x (.c (.own 0))),(9,.i (IntKind.wrap .i64 (q+(1:Int)))),(10,.i x2)],ck:=[.own 3 .int ks] }) (.stop x1 { n:=32,fr:=[(1,.p (.lst .int a)),(6,.i 0),(7,.i 0),(8,.x (.c (.own 0))),(9,.i q),(10,.i x2)],ck:=[.own 3 .int ks] })))) (.ret (.tup [.i q,.i ks.length]) [])) ?_
  conv=>zeta
  refine ⟨fun hlt=>?_,fun hge=>?_⟩
  · have hk':k<ks.length:=by have:=of_decide_eq_true hlt; omega
    have hs:=xi a hk'
    have hle:=Fu a (ks.take k)
    rw [aY] at hle
    refine ⟨⟨by omega,by omega⟩,hk',fun hb=>?_,fun hb=>?_⟩
    · rw [if_pos (by exact hb)] at hs
      have hw:IntKind.wrap .i64 (q+1)=(db a (ks.take (k+1)):Int):=by rw [cv (by omega) (by omega)]; omega
      rw [hw,aZ (aC hk' hm)]
      first
      | (exfalso; omega)
      | exact ih (k+1) (by omega) (by omega)
    · rw [if_neg (by exact fun e=>by rw [show _=false from hb] at e; cases e)] at hs
      have hw:q=(db a (ks.take (k+1)):Int):=by omega
      rw [hw,aZ (aC hk' hm)]
      first
      | (exfalso; omega)
      | exact ih (k+1) (by omega) (by omega)
  · have hke:k=ks.length:=by have:=of_decide_eq_false hge; omega
    subst hke
    rw [aS (ar _)] at hac
    subst hac
    exact ⟨rfl,rfl⟩
theorem EO (a:List Int) (m:Int) (h:0≤m∧c.states.length≤1000):ah Tryz.prog 37 [.e .chart c,.l .int a,.i m] [] (.tup [.i (db a (bF c.states m c.states.length):Int),.i ((bF c.states m c.states.length).length:Int)]) []:=by
 obtain ⟨m,rfl⟩:=aD h.1
 have hk:=kG c.states (m:Int) c.states.length
 refine dg tU Tryz.func37 (.need (c.states.length≤1466015503701) (.stop zCm2 { n:=32,fr:=[(1,.p (.lst .int a)),(6,.i 0),(7,.i 0),(8,.x (.c (.own 0))),(9,.i 0),(10,.i 0)],ck:=[.own 3 .int (bF c.states (m:Int) c.states.length)] })) fun Γ=>?_
 refine ⟨by omega,?_⟩
 exact Gt c a (bF c.states (m:Int) c.states.length) m (by omega) Γ _ 0 (ar _) (by omega)
def u9:Ent:=(37,fun
 | [.agg [.pd (.str a),.pd (.lst .str b),.pd (.lst .var c),.pd (.lst .stat d),.pd (.lst .tran e)],.c (.pd (.lst .int s)),.c (.pd (.int .i64 m))],[]=>some (some (0≤m∧d.length≤1000),.tup [.c (.pd (.int .i64 (db s (bF d m d.length):Int))),.c (.pd (.int .i64 ((bF d m d.length).length:Int)))],[])
 | _,_=>none)
theorem G0:EntOk Tryz.prog u9:=entOk fun vs ck=>by
 unfold u9; dsimp only; split
 · rename_i a b c d e s m; exact entS fun hp=>EO ⟨a,b,c,d,e⟩ s m hp
 · exact entN
def rM:Cfg:=⟨aX,[iJ,si,lA,u9]⟩
theorem oi:ag Tryz.prog rM.tab:=(ag.cons iA (ag.cons sJ (ag.cons ky (ag.cons G0 ag.nil))))
abbrev zCm1 (a:Chart):List Chunk:=[.cells [.pd (.str a.name),.pd (.lst .str a.events),.pd (.lst .var a.vars),.pd (.lst .stat a.states),.pd (.lst .tran a.trans)] 27]
abbrev zCm3:List PI:=[.code [1,1,0,1,0,0],.inLoop [1,1,0,1,0,0],.inBlock 2,.code [1,1,1]]
theorem G7 (hl:c.states.length≤1000) (Γ:Ctx):∀ (n i:Nat),c.states.length - i=n→i≤c.states.length →
 J Tryz.prog 16 (aw Tryz.f16) Γ (Eq2 (.x (.b (mz c.states s n i))) []) zCm3 ({ n:=128,fr:=[(1,.p (.lst .int s)),(2,.x (.c (.loc 0 0))),(4,.p (.bool false)),(6,.i ((i:Int)))],ck:=(zCm1 c),kn:=[4] }):=by
 have hm:c.states.length≤maxLen:=by unfold maxLen; omega
 have no:∀ {b:Bool},b=false→¬b=true:=fun h e=>by rw [h] at e; cases e
 intro n
 induction n with
 | zero=>?_
 | succ n ih=>?_
 all_goals
  intro i hn hi
  refine jg oi Tryz.func16 (let x1:Tree:=(.stop zCm3 { n:=128,fr:=[(1,.p (.lst .int s)),(2,.x (.c (.loc 0 0))),(4,.p (.bool false)),(6,.i (IntKind.wrap .i64 ((i:Int)+1)))],ck:=(zCm1 c),kn:=[4] }); let x2:=(bF c.states (i:Int) c.states.length); let x3:=(ETy.get .stat c.states i); let x4:Tree:=(.ret (.p (.bool false)) []); let x5:=(inRg i c.states.length); let x6:=(c.states.length:Int); .ite (decide ((i:Int)<x6)) (.need x5 (.ite (Stat.depth x3==(0:Int) && !inB s (i:Int)) x4 (.ite (!inB s (i:Int)) x1 (.need x5 (.need (decide (Stat.depth x3>(0:Int))=true→(0:Int)≤(i:Int)∧(i:Int)<x6∧c.states.length≤maxLen) (.ite (decide (Stat.depth x3>(0:Int)) && !inB s (bB c.states i)) x4 (.need ((0:Int)≤(i:Int)∧c.states.length≤1000) (.need x5 (.need ((Stat.kind x3==(2:Int)&&(↑(db s x2):Int) != 1)=false→(0:Int)≤(i:Int)∧(i:Int)<x6) (.ite (Stat.kind x3==(2:Int)&&(↑(db s x2):Int) != 1||Stat.kind x3==(3:Int)&&(↑(db s x2):Int) != (↑(x2.length):Int)) x4 x1)))))))))) (.ret (.p (.bool true)) [])) ?_
  conv=>zeta
  refine ⟨fun hlt=>?_,fun hge=>?_⟩
 · have:=of_decide_eq_true hlt; omega
 · exact ⟨rfl,rfl⟩
 · have hi':i<c.states.length:=by omega
   have hn2:c.states.length - (i+1)=n:=by omega
   have hw:IntKind.wrap .i64 ((i:Int)+1)=((i+1:Nat):Int):=aZ (aC hi' hm)
   rw [mz]
   refine ⟨⟨by omega,by omega⟩,fun h1=>?_,fun h1=>⟨fun h2=>?_,fun h2=>⟨⟨by omega,by omega⟩,fun _=>⟨by omega,by omega,hm⟩,fun h3=>?_,fun h3=>⟨⟨by omega,hl⟩,⟨by omega,by omega⟩,fun _=>⟨by omega,by omega⟩,fun h4=>?_,fun h4=>?_⟩⟩⟩⟩
   · have e:fE c.states s i=false:=by unfold fE; rw [if_pos h1]
     rw [e,aR]; exact ⟨rfl,rfl⟩
   · have e:fE c.states s i=true:=by unfold fE; rw [if_neg (no h1),if_pos h2]
     rw [e,aU,hw]; exact ih (i+1) hn2 (by omega)
   · have e:fE c.states s i=false:=by unfold fE; rw [if_neg (no h1),if_neg (no h2),if_pos h3]
     rw [e,aR]; exact ⟨rfl,rfl⟩
   · have e:fE c.states s i=false:=by unfold fE; rw [if_neg (no h1),if_neg (no h2),if_neg (no h3)]; exact congrArg not h4
     rw [e,aR]; exact ⟨rfl,rfl⟩
   · have e:fE c.states s i=true:=by unfold fE; rw [if_neg (no h1),if_neg (no h2),if_neg (no h3)]; exact congrArg not h4
     rw [e,aU,hw]; exact ih (i+1) hn2 (by omega)
 · have:=of_decide_eq_false hge; omega
theorem Dp (l:List Ev.Stat) (s:List Int) (k:Nat) (hk:k<9223372036854775807):(decide (ETy.get .int s k<0)||decide (ETy.get .int s k≥(l.length:Int))||decide ((k:Int)>0)&&decide (ETy.get .int s k≤ETy.get .int s (IntKind.wrap .i64 ((k:Int) - 1)).toNat))=(decide (ETy.get .int s k<0)||decide (ETy.get .int s k≥(l.length:Int))||decide (0<k)&&decide (ETy.get .int s k≤ETy.get .int s (k - 1))):=by
 congr 1
 by_cases h0:0<k
 · have e:(IntKind.wrap .i64 ((k:Int) - 1)).toNat=k - 1:=by rw [cv (by omega) (by omega)]; omega
   rw [e,decide_eq_true h0,decide_eq_true (show (k:Int)>0 by omega)]
 · rw [decide_eq_false h0,decide_eq_false (show ¬(k:Int)>0 by omega),aR,aR]
theorem A6 {x n:Int} {b:Bool} (h:(decide (x<0)||decide (x≥n)||b)=false):0≤x∧x<n:=by
 rw [ay,ay] at h
 have:=of_decide_eq_false h.1.1
 have:=of_decide_eq_false h.1.2
 omega
abbrev zCm4:List PI:=[.code [1,0,1,0,0],.inLoop [1,0,1,0,0],.inBlock 0,.code [1,1]]
theorem GU (hl:c.states.length≤1000) (hs:s.length≤maxLen) (Γ:Ctx):∀ (n k:Nat),s.length - k=n→k≤s.length →
 J Tryz.prog 16 (aw Tryz.f16) Γ (Eq2 (.x (.b (iT c.states s n k&&mz c.states s c.states.length 0))) []) zCm4 ({ n:=128,fr:=[(1,.p (.lst .int s)),(2,.x (.c (.loc 0 0))),(4,.p (.bool false)),(5,.i ((k:Int)))],ck:=(zCm1 c),kn:=[4] }):=by
 have no:∀ {b:Bool},b=false→¬b=true:=fun h e=>by rw [h] at e; cases e
 have hmm:maxLen≤9223372036854775807:=by decide
 intro n
 induction n with
 | zero=>?_
 | succ n ih=>?_
 all_goals
  intro k hn hk
  refine jg oi Tryz.func16 (let x3:=(ETy.get .int s k<(0:Int)); let x4:=(ETy.get .int s k≥(c.states.length:Int)); let x1:=(((18,34,true,cE true (decide ((k:Int)>0)) (some (15,31,false,cE false (decide x3||decide x4) none))).2).2); let x2:List Chunk:=(zCm1 c); .ite (decide ((k:Int)<(s.length:Int))) (.need (inRg k s.length) (.need ((((5,21,false,cE false (decide x3) none).2).2).2→(0:Int)≤(k:Int)∧(k:Int)<(s.length:Int)) (.need (x1.2→(0:Int)≤(k:Int)∧(k:Int)<(s.length:Int)) (.need (x1.2→(0:Int)≤IntKind.wrap .i64 ((k:Int) - 1)∧IntKind.wrap .i64 ((k:Int) - 1)<(s.length:Int)) (.ite (decide x3||decide x4||decide ((k:Int)>0)&&decide (ETy.get .int s k≤ETy.get .int s ((IntKind.wrap .i64 ((k:Int) - 1)).toNat))) (.ret (.p (.bool false)) []) (.need (inRg k s.length) (.need ((0:Int)≤ETy.get .int s k∧ETy.get .int s k<(c.states.length:Int)) (.ite (a8 (Stat.kind (ETy.get .stat c.states ((ETy.get .int s k).toNat)))) (.ret (.p (.bool false)) []) (.stop zCm4 { n:=128,fr:=[(1,.p (.lst .int s)),(2,.x (.c (.loc 0 0))),(4,.p (.bool false)),(5,.i (IntKind.wrap .i64 ((k:Int)+1)))],ck:=x2 }))))))))) (.stop zCm3 { n:=128,fr:=[(1,.p (.lst .int s)),(2,.x (.c (.loc 0 0))),(4,.p (.bool false)),(6,.i 0)],ck:=x2,kn:=[4] })) ?_
  conv=>zeta
  refine ⟨fun hlt=>?_,fun hge=>?_⟩
 · have:=of_decide_eq_true hlt; omega
 · rw [iT,aU]
   exact G7 c s hl Γ c.states.length 0 (by omega) (by omega)
 · have hk':k<s.length:=by omega
   have hn2:s.length - (k+1)=n:=by omega
   have hw:IntKind.wrap .i64 ((k:Int)+1)=((k+1:Nat):Int):=aZ (aC hk' hs)
   have hcv:=Dp c.states s k (by omega)
   rw [iT]
   refine ⟨⟨by omega,by omega⟩,fun _=>⟨by omega,by omega⟩,fun _=>⟨by omega,by omega⟩,fun hg=>?_,fun h1=>?_,fun h1=>⟨⟨by omega,by omega⟩,A6 h1,fun h2=>?_,fun h2=>?_⟩⟩
   · have h3:decide ((k:Int)>0)=true:=hg.2
     have:=of_decide_eq_true h3
     rw [cv (by omega) (by omega)]; omega
   · have h1':=hcv.symm.trans h1
     have e:jz c.states s k=false:=by unfold jz; rw [h1']; rfl
     rw [e,aR,aR]; exact ⟨rfl,rfl⟩
   · have e:jz c.states s k=false:=by unfold jz; rw [show a8 (ETy.get .stat c.states (ETy.get .int s k).toNat).kind=true from h2,bO,cz]
     rw [e,aR,aR]; exact ⟨rfl,rfl⟩
   · have h1':=hcv.symm.trans h1
     have e:jz c.states s k=true:=by unfold jz; rw [h1',show a8 (ETy.get .stat c.states (ETy.get .int s k).toNat).kind=false from h2]; rfl
     rw [e,aU,hw]; exact J.kn [4] (ih (k+1) hn2 (by omega))
 · have:=of_decide_eq_false hge; omega
theorem lO (t:Tre c.states):ah Tryz.prog 16 [.e .chart c,.l .int s] [] (.x (.b (bb c.states s))) []:=by
 have hf:=t.shp.few
 refine dg oi Tryz.func16 (.stop zCm4 { n:=128,fr:=[(1,.p (.lst .int s)),(2,.x (.c (.loc 0 0))),(4,.p (.bool false)),(5,.i 0)],ck:=(zCm1 c),kn:=[4] }) fun Γ=>?_
 rw [← Gu t.shp]
 exact J.len 1 rfl fun hs=>GU c s (by omega) hs Γ s.length 0 (by omega) (by omega)
def o7:Ent:=(16,fun
 | [.agg [.pd (.str a),.pd (.lst .str b),.pd (.lst .var c),.pd (.lst .stat d),.pd (.lst .tran e)],.c (.pd (.lst .int s))],[]=>some (some (Tre d),.x (.c (.pd (.bool (bb d s)))),[])
 | _,_=>none)
theorem Cf:EntOk Tryz.prog o7:=entOk fun vs ck=>by
 unfold o7; dsimp only; split
 · rename_i a b c d e s; exact entS fun hp=>lO ⟨a,b,c,d,e⟩ s hp
 · exact entN
def kR:Cfg:=⟨aX,[kb]⟩
theorem iz:ag Tryz.prog kR.tab:=(ag.cons mS ag.nil)
end Go.Proofs.YtcopfgbbjdefbaaGreatDoor
namespace Go.Proofs
open Go.Shelf
def Tryz.lays146_ren:Go.Shelf.Ren:=⟨fun | 146=>43 | 221=>79 | 268=>132 | 138=>133 | 143=>134 | 195=>177 | 197=>178 | 218=>179 | 219=>180 | 260=>223 | 217=>224 | 225=>225 | 224=>226 | 267=>227 | 266=>260 | 314=>261 | n=>n,fun | 9=>9 | 31=>22 | 3=>3 | 4=>4 | 0=>0 | 105=>192 | 21=>21 | 5=>5 | 46=>112 | 119=>254 | 139=>257 | 138=>256 | 146=>258 | 51=>168 | n=>n,fun | 1=>0 | 3=>1 | 4=>2 | n=>n⟩
theorem Tryz.lays146:Go.Proofs.Lays.n146 Tryz.prog Tryz.lays146_ren:={
 mixed:=by kernel_rfl
 f138:=Tryz.func133.trans (congrArg some (by kernel_rfl))
 f143:=Tryz.func134.trans (congrArg some (by kernel_rfl))
 f146:=Tryz.func43.trans (congrArg some (by kernel_rfl))
 f195:=Tryz.func177.trans (congrArg some (by kernel_rfl))
 f197:=Tryz.func178.trans (congrArg some (by kernel_rfl))
 f217:=Tryz.func224.trans (congrArg some (by kernel_rfl))
 f218:=Tryz.func179.trans (congrArg some (by kernel_rfl))
 f219:=Tryz.func180.trans (congrArg some (by kernel_rfl))
 f221:=Tryz.func79.trans (congrArg some (by kernel_rfl))
 f224:=Tryz.func226.trans (congrArg some (by kernel_rfl))
 f225:=Tryz.func225.trans (congrArg some (by kernel_rfl))
 f260:=Tryz.func223.trans (congrArg some (by kernel_rfl))
 f266:=Tryz.func260.trans (congrArg some (by kernel_rfl))
 f267:=Tryz.func227.trans (congrArg some (by kernel_rfl))
 f268:=Tryz.func132.trans (congrArg some (by kernel_rfl))
 f314:=Tryz.func261.trans (congrArg some (by kernel_rfl))
 t0:=Tryz.underlying0
 a0:=Tryz.isAgg0
 z0:=Tryz.sizeOf0
 v0:=Tryz.zeroValue0
 t3:=Tryz.underlying3
 a3:=Tryz.isAgg3
 z3:=Tryz.sizeOf3
 v3:=Tryz.zeroValue3
 t4:=Tryz.underlying4
 a4:=Tryz.isAgg4
 z4:=Tryz.sizeOf4
 v4:=Tryz.zeroValue4
 t5:=Tryz.underlying5
 a5:=Tryz.isAgg5
 z5:=Tryz.sizeOf5
 v5:=Tryz.zeroValue5
 t9:=Tryz.underlying9
 a9:=Tryz.isAgg9
 z9:=Tryz.sizeOf9
 v9:=Tryz.zeroValue9
 t21:=Tryz.underlying21
 a21:=Tryz.isAgg21
 z21:=Tryz.sizeOf21
 v21:=Tryz.zeroValue21
 t31:=Tryz.underlying22
 a31:=Tryz.isAgg22
 z31:=Tryz.sizeOf22
 v31:=Tryz.zeroValue22
 t46:=Tryz.underlying112
 a46:=Tryz.isAgg112
 z46:=Tryz.sizeOf112
 v46:=Tryz.zeroValue112
 t51:=Tryz.underlying168
 a51:=Tryz.isAgg168
 z51:=Tryz.sizeOf168
 v51:=Tryz.zeroValue168
 t105:=Tryz.underlying192
 a105:=Tryz.isAgg192
 z105:=Tryz.sizeOf192
 v105:=Tryz.zeroValue192
 t119:=Tryz.underlying254
 a119:=Tryz.isAgg254
 z119:=Tryz.sizeOf254
 t138:=Tryz.underlying256
 a138:=Tryz.isAgg256
 z138:=Tryz.sizeOf256
 v138:=Tryz.zeroValue256
 t139:=Tryz.underlying257
 a139:=Tryz.isAgg257
 z139:=Tryz.sizeOf257
 v139:=Tryz.zeroValue257
 t146:=Tryz.underlying258
 a146:=Tryz.isAgg258
 z146:=Tryz.sizeOf258
 v146:=Tryz.zeroValue258
 g1:=by kernel_rfl
 g3:=by kernel_rfl
 g4:=by kernel_rfl }
open Go.RowKit Go.Lib in
theorem Tryz.strings_Split (s sep:ByteArray) (m:Int) (w:World) (hs:s.size<4294967281) (hm:w.cell? ⟨0,0,none⟩=some (.int .i64 m)) (h1:1≤sep.size) :
 Calls Tryz.prog 43 #[.string s,.string sep] w fun e w' =>
  e = .returned (.slice (some ⟨w.heap.size,0,none⟩) (Lib.countB s sep+1) (Lib.countB s sep+1))∧w'=w.alloc (.cells ((Lib.splitB sep 0 (Lib.countB s sep) s).map Value.string).toArray 9):=Any.strings_Split Tryz.lays146 (by kernel_rfl) s sep m w hs hm h1
end Go.Proofs
namespace Go.Proofs.YtcopfgbbjdefbaaGreatDoor
open Go Go.Ev Go.RowKit
set_option maxRecDepth 100000
variable (s:Str) {V:Vn} (b:UInt8)
theorem sU (j:Nat):Lib.occAt s [b] j=true↔s[j]?=some b:=by
 have h:s[j]?=(s.drop j).head?:=by rw [List.head?_drop]
 rw [h]
 unfold Lib.occAt
 cases hd:s.drop j with
 | nil=>simp [List.isPrefixOf]
 | cons x r=>simp [List.isPrefixOf]; exact eq_comm
theorem C8:(Lib.index s [b] = -1∧b ∉ s)∨∃ a r,s=a++b::r∧b ∉ a∧Lib.index s [b]=(a.length:Int):=by
 rcases Lib.index_spec s [b] with ⟨h1,h2⟩ | ⟨i,h1,h2,h3,h4⟩
 · refine .inl ⟨h1,fun hm=>?_⟩
   obtain ⟨j,hj,e⟩:=dU.1 hm
   have:=h2 j (by omega)
   rw [(sU s b j).2 (by rw [List.getElem?_eq_getElem hj,e])] at this
   cases this
 · have h5:=(sU s b i).1 h3
   obtain ⟨hi,h6⟩:=List.getElem?_eq_some_iff.1 h5
   refine .inr ⟨s.take i,s.drop (i+1),?_,fun hm=>?_,by rw [h1,aY]; omega⟩
   · rw [← h6,← dn hi,cN]
   · obtain ⟨j,hj,e⟩:=dU.1 hm
     rw [aY] at hj
     have h7:=h4 j (by omega)
     rw [(sU s b j).2 (by rw [List.getElem?_eq_getElem (by omega)]; rw [List.getElem_take] at e; rw [e])] at h7
     cases h7
def dT:Str→Str→List Str
 | cur,[]=>[cur]
 | cur,c::r=>bif c==10 then cur::dT [] r else dT (cur++[c]) r
theorem ur:∀ (s cur:Str),(10:UInt8) ∉ s→dT cur s=[cur++s]
 | [],cur,_=>by simp [dT]
 | c::r,cur,h=>by
   simp only [aH,not_or] at h
   have hc:(c==10)=false:=by simpa using fun e=>h.1 e.symm
   rw [dT,hc,cond_false,ur r _ h.2]; simp
theorem vT:∀ (a cur b:Str),(10:UInt8) ∉ a→dT cur (a++10::b)=(cur++a)::dT [] b
 | [],cur,b,_=>by simp [dT]
 | c::r,cur,b,h=>by
   simp only [aH,not_or] at h
   have hc:(c==10)=false:=by simpa using fun e=>h.1 e.symm
   rw [bS,dT,hc,cond_false,vT r _ b h.2]; simp
theorem oJ:∀ (k:Nat) (s:Str),Lib.count s [10]=k→Lib.splitK [10] 0 k s=dT [] s
 | 0,s,h=>by
   rw [Lib.count_one] at h
   rw [ur s [] (List.count_eq_zero.1 h)]; rfl
 | k + 1,s,h=>by
   rcases C8 s 10 with ⟨h1,_⟩ | ⟨a,r,rfl,h2,h3⟩
   · rw [Lib.count_miss h1] at h; omega
   · have h4:=Lib.count_hit (by simp) h3
     have e:(a++10::r).drop (a.length+1)=r:=by
      rw [← List.drop_drop,List.drop_left]; rfl
     rw [show ([10]:Str).length=1 from rfl,e] at h4
     rw [Lib.splitK,if_neg (by rw [h3]; simp),h3,ai,show ([10]:Str).length=1 from rfl,e,b9,List.take_left,vT a [] r h2,oJ k r (by omega)]; rfl
theorem yC:(Lib.splitB ⟨#[10]⟩ 0 (Lib.countB (bs s) ⟨#[10]⟩) (bs s)).map (·.data.toList)=dT [] s:=by
 rw [Lib.splitB_data]
 have e:(bs s).data.toList=s:=fj s
 rw [e]
 exact oJ _ s (by show Lib.count s [10]=Lib.count (bs s).data.toList _; rw [e])
theorem qu:∀ (s cur:Str),(dT cur s).length=s.countP (·==10)+1
 | [],cur=>rfl
 | c::r,cur=>by
   rw [dT,List.countP_cons]
   cases h:c==10
   · rw [cond_false,qu r]; simp
   · rw [cond_true,aE,qu r]; simp
theorem Ah:(dT [] s).length≤s.length+1:=by
 rw [qu]; have:=List.countP_le_length (p:=(·==(10:UInt8))) (l:=s); omega
theorem yY {w:World} (hT:fO Tryz.prog V.H) (hi:HIn V.H w):∃ m,w.cell? ⟨0,0,none⟩=some (.int .i64 m):=by
 obtain ⟨g,cs,e,fr,m,h1,h2,h3⟩:=hT.2.2.2 (by kernel_rfl)
 have e1:g=0:=(cB ((show Tryz.prog.globalNamed "internal/bytealg.MaxLen"=some 0 by kernel_rfl).symm.trans h1)).symm
 subst e1
 have h4:=hi _ _ h2
 exact ⟨m,by simp only [World.cell?,h4]; exact h3⟩
theorem Hg {a b:Str} {vs:List Value} (hv:All2 (SX.R V) [SX.s a,SX.s b] vs):vs=[.string (bs a),.string (bs b)]:=by
 cases hv with
 | cons a1 hv=>cases hv with
   | cons a2 hv =>
     cases hv
     have a1':PR V.H (.str a) _:=a1
     have a2':PR V.H (.str b) _:=a2
     cases a1'; cases a2'
     rfl
theorem xI {H:Mem}:∀ (l:List Str),All2 (PR H) (l.flatMap ETy.str.enc) (l.map fun s=>Value.string (bs s))
 | []=>.nil
 | s::r=>.cons (.str s) (xI r)
theorem yW (hs:s.length<4294967281):ah Tryz.prog 43 [.s s,.s [10]] [] (.x (.c (.own 0))) [.own 9 .str (dT [] s)]:=by
 intro w V vs hw hT hv
 rw [Hg hv]
 obtain ⟨m,hm⟩:=yY hT hw.imm
 have hp:=yC s
 have hl:=congrArg List.length hp
 rw [aN] at hl
 have hc:Lib.countB (bs s) ⟨#[10]⟩+1=(dT [] s).length:=by
  rw [← hl]; exact (Lib.splitB_all ⟨#[10]⟩ (by decide) 0 _ (bs s) rfl).symm
 refine (Tryz.strings_Split (bs s) (bs [10]) m w (by rw [jb]; exact hs) hm (by decide)).mono fun e w' ⟨he,hw'⟩=>?_
 subst he; subst hw'
 have hcells:(Lib.splitB (bs [10]) 0 (Lib.countB (bs s) (bs [10])) (bs s)).map Value.string=(dT [] s).map fun s=>Value.string (bs s):=by
  rw [← hp,List.map_map]
  exact er fun x _=>by simp [kq]
 have hc':Lib.countB (bs s) (bs [10])+1=(dT [] s).length:=hc
 rw [hcells,hc']
 have hlen:=Ah s
 obtain ⟨V2,hag,_,_,e2,hw2⟩:=hw.regrow (ck:=[]) rfl (aT _) none (c:=.own 9 .str (dT [] s)) (v':=.slice (some ⟨w.heap.size,0,none⟩) (dT [] s).length (dT [] s).length) (s':=w.heap.size) (w':=w.alloc (.cells ((dT [] s).map fun s=>Value.string (bs s)).toArray 9)) (row:=none) (by simp) (World.grownBy_alloc w _ none) (fun V' hag hH f1 f2=>by
  have f3:V'.ov 0 = .slice (some ⟨w.heap.size,0,none⟩) (dT [] s).length (dT [] s).length:=f2
  have f4:V'.σ 0=w.heap.size:=f1
  refine ⟨⟨(dT [] s).map fun s=>Value.string (bs s),?_,xI _,fun b hb=>?_⟩,fun b hb=>?_⟩
  · rw [f2]
    have:=World.ownsRow_lit (base:=0) (size:=1) (e:=9) w ((dT [] s).map fun s=>Value.string (bs s)).toArray (dT [] s).length (aT _) (by unfold maxLen; omega) (by simp)
    exact this
  · rw [f2] at hb; simp only [Value.ownBlock,aa] at hb; rw [f1,← hb]
  · right; simp only [Chunk.blk] at hb; rw [f2] at hb; simp only [Value.ownBlock,aa] at hb; omega)
 exact ⟨_,V2,rfl,e2.symm,hw2⟩
def oT:Ent:=(43,fun
 | [.c (.pd (.str s)),.c (.pd (.str [10]))],[]=>some (some (s.length<4294967281),.x (.c (.own 0)),[.own 9 .str (dT [] s)])
 | _,_=>none)
theorem C1:EntOk Tryz.prog oT:=entOk fun vs ck=>by
 unfold oT; dsimp only; split
 · rename_i s; exact entS fun hp=>yW s hp
 · exact entN
end Go.Proofs.YtcopfgbbjdefbaaGreatDoor
