/- Contracts: the document's trees: parents, what is within, children, right trees, domains. Conditions: sizes. -/
import Derived.Test.YtgfifkhbfdacjaaGreatDoorTc
namespace Go.Proofs.YtgfifkhbfdacjaaGreatDoor
open Go Go.Ev
set_option maxRecDepth 100000
abbrev zJ68Sa:=J Tryz.prog 68 (av Tryz.f68)
def fC (l:List Ev.Stat) (d:Int):Nat→Int
 | 0=>-1
 | k+1=>if ((ETy.get .stat l k).depth==d)=true then (k:Int) else fC l d k
variable (l:List Ev.Stat) (i r:Int) (j k:Nat)
def aO (i:Nat):Int:=fC l (IntKind.wrap .i64 ((ETy.get .stat l i).depth - 1)) i
def gN (l:List Ev.Stat) (i:Int):Nat→Int→Bool
 | 0,_=>false
 | n+1,k=>if k<0 then false else if (k==i)=true then true else gN l i n (aO l k.toNat)
def dE:Bool:=gN l i (l.length+1) (aO l j)
def cw (n:Nat):List Int:=((List.range n).filter fun k=>aO l k==i&&decide ((ETy.get .stat l k).depth>0)).map fun k:Nat=>(k:Int)
def hO:Bool:=decide ((ETy.get .stat l k).kind<1)||decide ((ETy.get .stat l k).kind>6)||decide ((ETy.get .stat l k).depth<0)||decide ((ETy.get .stat l k).depth>5)||decide (0<k)&&decide ((ETy.get .stat l k).depth>IntKind.wrap .i64 ((ETy.get .stat l (k - 1)).depth+1))
def eQ (l:List Ev.Stat):Nat→Nat→Int→Option Int
 | 0,_,r=>some r
 | n+1,k,r=>if hO l k=true then none else if ((ETy.get .stat l k).depth==0)=true then (if ((ETy.get .stat l k).kind != 2)=true then none else eQ l n (k+1) (IntKind.wrap .i64 (r+1))) else eQ l n (k+1) r
def CJ:Option Int→Bool
 | none=>false
 | some r=>decide (r≤4)
def gZ:Bool:=!(decide (l.length<1)||decide (l.length>40)||(ETy.get .stat l 0).depth != 0)&&CJ (eQ l l.length 0 0)
def jH (i:Nat):Bool :=
 !(decide (aO l i≥0)&&(ETy.get .stat l (aO l i).toNat).kind != 2&&((ETy.get .stat l (aO l i).toNat).kind != 3||decide ((ETy.get .stat l i).kind>3)))&&(bif (ETy.get .stat l i).kind != 2&&(ETy.get .stat l i).kind != 3 then true else (cw l (i:Int) l.length).any fun y=>!aM (ETy.get .stat l y.toNat).kind)
def fQ (l:List Ev.Stat):Nat→Nat→Bool
 | 0,_=>true
 | n+1,k=>jH l k&&fQ l n (k+1)
def fU:Bool:=gZ l&&fQ l l.length 0
def jV (l:List Ev.Stat) (j:Nat):Nat→Int→Int
 | 0,_=>-1
 | n+1,k=>if k<0 then k else if ((ETy.get .stat l k.toNat).kind==2&&dE l k j)=true then k else jV l j n (aO l k.toNat)
def fO (i j:Nat):Int:=jV l j (l.length+1) (i:Int)
theorem uR (l:List Ev.Stat) (d:Int):∀ k:Nat, -1≤fC l d k∧fC l d k<(k:Int)
 | 0=>by rw [fC]; omega
 | k+1=>by
   have:=uR l d k
   rw [fC]; split <;> omega
theorem hZ : -1≤aO l k∧aO l k<(k:Int):=uR _ _ _
theorem AC (k:Int):ah Tryz.prog 29 [.i k] [] (.x (.b (aM k))) []:=by
 refine dg aY Tryz.func29 (.ret (.p (.bool (k==(5:Int)||k==(6:Int)))) []) fun Γ=>?_
 exact ⟨rfl,rfl⟩
def gG:Ent:=(29,fun
 | [.c (.pd (.int .i64 k))],[]=>some (none,.x (.c (.pd (.bool (aM k)))),[])
 | _,_=>none)
theorem fZ:EntOk Tryz.prog gG:=entOk fun vs ck=>by
 unfold gG; dsimp only; split
 · rename_i k; exact entS fun hp=>AC k
 · exact entN
abbrev zSa1:List PI:=[.code [1,1,0,1,0,0],.inLoop [1,1,0,1,0,0],.inBlock 0,.code [1,1,1]]
theorem MN (i:Nat) (hi:i<l.length) (hl:l.length≤maxLen) (Γ:Ctx):∀ n k:Nat,i - k≤n→k≤i →
 J Tryz.prog 26 (av Tryz.f26) Γ (Eq2 (.x (.i (aO l i))) []) zSa1 ({ n:=26,fr:=[(0,.p (.lst .stat l)),(1,.i i),(4,.i 0),(5,.i ((fC l (IntKind.wrap .i64 ((ETy.get .stat l i).depth - 1)) k))),(6,.i ((k:Int)))],ck:=[] }):=by
 intro n
 induction n with
 | zero=>?_
 | succ n ih=>?_
 all_goals
  intro k hn hk
  generalize hfd:fC l (IntKind.wrap .i64 ((ETy.get .stat l i).depth - 1)) k=fd
  refine jg aY Tryz.func26 (.ite (decide ((k:Int)<(i:Int))) (.need (inRg k l.length) (.need (inRg i l.length) (.ite (Stat.depth (ETy.get .stat l k)==IntKind.wrap .i64 (Stat.depth (ETy.get .stat l i) - (1:Int))) (.stop zSa1 { n:=26,fr:=[(0,.p (.lst .stat l)),(1,.i i),(4,.i 0),(5,.i k),(6,.i (IntKind.wrap .i64 ((k:Int)+1)))],ck:=[] }) (.stop zSa1 { n:=26,fr:=[(0,.p (.lst .stat l)),(1,.i i),(4,.i 0),(5,.i fd),(6,.i (IntKind.wrap .i64 ((k:Int)+1)))],ck:=[] })))) (.ret (.i fd) [])) ?_
  refine ⟨fun hlt=>?_,fun hge=>?_⟩
  · have hk':k<i:=by have:=of_decide_eq_true hlt; omega
    have hw:=aU (aB (show k<l.length by omega) hl)
    refine ⟨⟨by omega,by omega⟩,⟨by omega,by omega⟩,fun h=>?_,fun h=>?_⟩
    · have e:fC l (IntKind.wrap .i64 ((ETy.get .stat l i).depth - 1)) (k+1)=(k:Int):=by rw [fC,if_pos h]
      rw [hw,← e]
      first
      | (exfalso; omega)
      | exact ih (k+1) (by omega) (by omega)
    · have e:fC l (IntKind.wrap .i64 ((ETy.get .stat l i).depth - 1)) (k+1)=fd:=by rw [fC,if_neg (by rw [h]; decide),hfd]
      rw [hw,← e]
      first
      | (exfalso; omega)
      | exact ih (k+1) (by omega) (by omega)
  · have hke:k=i:=by have:=of_decide_eq_false hge; omega
    subst hke
    refine ⟨?_,rfl⟩
    rw [← hfd]; rfl
theorem DY (h:0≤i∧i<(l.length:Int)∧l.length≤maxLen):ah Tryz.prog 26 [.l .stat l,.i i] [] (.x (.i (aO l i.toNat))) []:=by
 obtain ⟨k,rfl⟩:=ax h.1
 rw [ai]
 have key:ah Tryz.prog 26 [.l .stat l,.i (k:Int)] [] (.x (.i (aO l k))) []:=by
  refine dg aY Tryz.func26 (.stop zSa1 { n:=26,fr:=[(0,.p (.lst .stat l)),(1,.i k),(4,.i 0),(5,.i (-1:Int)),(6,.i 0)],ck:=[] }) fun Γ=>?_
  exact MN l k (by omega) h.2.2 Γ k 0 (by omega) (by omega)
 exact key
def jr:Ent:=(26,fun
 | [.c (.pd (.lst .stat l)),.c (.pd (.int .i64 i))],[]=>some (some (0≤i∧i<(l.length:Int)∧l.length≤maxLen),.x (.c (.pd (.int .i64 (aO l i.toNat)))),[])
 | _,_=>none)
theorem gT:EntOk Tryz.prog jr:=entOk fun vs ck=>by
 unfold jr; dsimp only; split
 · rename_i l i; exact entS fun hp=>DY l i hp
 · exact entN
def rN:Cfg:=⟨aW,[jr]⟩
theorem mL:ag Tryz.prog rN.tab:=(ag.cons gT ag.nil)
abbrev zSa6:List PI:=[.code [1,0,1,0,0],.inLoop [1,0,1,0,0],.inBlock 0,.code [1,1]]
theorem Lf (j:Nat) (hl:l.length≤maxLen) (Γ:Ctx):∀ (n:Nat) (k:Int), -1≤k→k<(l.length:Int)→k+1<(n:Int) →
 J Tryz.prog 27 (av Tryz.f27) Γ (Eq2 (.x (.b (gN l i n k))) []) zSa6 ({ n:=19,fr:=[(0,.p (.lst .stat l)),(1,.i i),(6,.p (.bool false)),(7,.i k)],ck:=[],kn:=[6] }):=by
 intro n
 induction n with
 | zero=>intro k h1 h2 h3; omega
 | succ n ih =>
   intro k h1 h2 h3
   refine jg mL Tryz.func27 (.ite (decide (k≥(0:Int))) (.ite (k==i) (.ret (.p (.bool true)) []) (.need ((0:Int)≤k∧k<(l.length:Int)∧l.length≤maxLen) (.stop zSa6 { n:=19,fr:=[(0,.p (.lst .stat l)),(1,.i i),(6,.p (.bool false)),(7,.i (aO l (Int.toNat k)))],ck:=[],kn:=[6] }))) (.ret (.p (.bool false)) [])) ?_
   refine ⟨fun h=>⟨fun he=>?_,fun he=>?_⟩,fun h=>?_⟩
   · have hk:k≥0:=of_decide_eq_true h
     rw [gN,if_neg (by omega),if_pos he]; exact ⟨rfl,rfl⟩
   · have hk:k≥0:=of_decide_eq_true h
     have hp:=hZ l k.toNat
     have e:((k.toNat:Nat):Int)=k:=eD hk
     refine ⟨⟨hk,h2,hl⟩,?_⟩
     rw [gN,if_neg (by omega),if_neg (by rw [he]; decide)]
     exact ih (aO l k.toNat) hp.1 (by omega) (by omega)
   · have hk:¬k≥0:=of_decide_eq_false h
     rw [gN,if_pos (by omega)]; exact ⟨rfl,rfl⟩
theorem FB (j:Int) (h:0≤j∧j<(l.length:Int)∧l.length≤maxLen):ah Tryz.prog 27 [.l .stat l,.i i,.i j] [] (.x (.b (dE l i j.toNat))) []:=by
 obtain ⟨k,rfl⟩:=ax h.1
 rw [ai]
 have key:ah Tryz.prog 27 [.l .stat l,.i i,.i (k:Int)] [] (.x (.b (dE l i k))) []:=by
  refine dg mL Tryz.func27 (.need ((0:Int)≤(k:Int)∧(k:Int)<(l.length:Int)∧l.length≤maxLen) (.stop zSa6 { n:=19,fr:=[(0,.p (.lst .stat l)),(1,.i i),(6,.p (.bool false)),(7,.i (aO l k))],ck:=[],kn:=[6] })) fun Γ=>?_
  have hp:=hZ l k
  exact ⟨h,Lf l i k h.2.2 Γ (l.length+1) (aO l k) hp.1 (by omega) (by omega)⟩
 exact key
def mX:Ent:=(27,fun
 | [.c (.pd (.lst .stat l)),.c (.pd (.int .i64 i)),.c (.pd (.int .i64 j))],[]=>some (some (0≤j∧j<(l.length:Int)∧l.length≤maxLen),.x (.c (.pd (.bool (dE l i j.toNat)))),[])
 | _,_=>none)
theorem nk:EntOk Tryz.prog mX:=entOk fun vs ck=>by
 unfold mX; dsimp only; split
 · rename_i l i j; exact entS fun hp=>FB l i j hp
 · exact entN
theorem CM:cw l i (k+1)=if (aO l k==i&&decide ((ETy.get .stat l k).depth>0))=true then cw l i k++[(k:Int)] else cw l i k:=by
 unfold cw
 rw [dC,bQ,bO]
 cases h:(aO l k==i&&decide ((ETy.get .stat l k).depth>0)) <;> simp [h]
theorem mV:(cw l i k).length≤k:=by
 unfold cw
 rw [aP]
 exact aw (a6 _ _) (by simp)
theorem xN {k:Nat} {y:Int} (h:y∈cw l i k):0≤y∧y<(k:Int):=by
 unfold cw at h
 obtain ⟨m,hm,rfl⟩:=aT.1 h
 have:=bw.1 (aA.1 hm).1
 omega
theorem M9 (hl:l.length≤1466015503701) (Γ:Ctx):∀ (n k:Nat),l.length - k≤n→k≤l.length →
 J Tryz.prog 54 (av Tryz.f54) Γ (Eq2 (.x (.c (.own 0))) [.own 3 .int (cw l i l.length)]) zSa1 ({ n:=31,fr:=[(0,.p (.lst .stat l)),(1,.i i),(4,.p (.v (Value.slice none 0 0))),(5,.x (.c (.own 0))),(6,.i ((k:Int)))],ck:=[.own 3 .int (cw l i k)] }):=by
 have hm:l.length≤maxLen:=aw hl (by decide)
 intro n
 induction n with
 | zero=>?_
 | succ n ih=>?_
 all_goals
  intro k hn hk
  generalize hout:cw l i k=out
  refine jg mL Tryz.func54 (let x1:List (Nat×SV):=[(0,.p (.lst .stat l)),(1,.i i),(4,.p (.v (Value.slice none 0 0))),(5,.x (.c (.own 0))),(6,.i (IntKind.wrap .i64 ((k:Int)+1)))]; let x2:List PI:=zSa1; .ite (decide ((k:Int)<(l.length:Int))) (.need ((0:Int)≤(k:Int)∧(k:Int)<(l.length:Int)∧l.length≤maxLen) (.need ((aO l k==i)=true→(0:Int)≤(k:Int)∧(k:Int)<(l.length:Int)) (.ite (aO l k==i&&decide (Stat.depth (ETy.get .stat l k)>(0:Int))) (.need (room ((out++[(k:Int)]).length) 8) (.stop x2 { n:=31,fr:=x1,ck:=[.own 3 .int (out++[(k:Int)])] })) (.stop x2 { n:=31,fr:=x1,ck:=[.own 3 .int out] })))) (.ret (.x (.c (.own 0))) [.own 3 .int out])) ?_
  conv=>zeta
  have hs:=CM l i k
  rw [hout] at hs
  refine ⟨fun hlt=>?_,fun hge=>?_⟩
  · have hk':k<l.length:=by have:=of_decide_eq_true hlt; omega
    refine ⟨⟨by omega,by omega,hm⟩,fun _=>⟨by omega,by omega⟩,fun h=>?_,fun h=>?_⟩
    · rw [if_pos h] at hs
      have hle:=mV l i (k+1)
      rw [hs] at hle
      refine ⟨⟨by omega,by unfold maxLen; omega⟩,?_⟩
      rw [aU (aB hk' hm),← hs]
      first
      | (exfalso; omega)
      | exact ih (k+1) (by omega) (by omega)
    · rw [if_neg (by rw [h]; decide)] at hs
      rw [aU (aB hk' hm),← hs]
      first
      | (exfalso; omega)
      | exact ih (k+1) (by omega) (by omega)
  · have hke:k=l.length:=by have:=of_decide_eq_false hge; omega
    subst hke
    rw [hout]; exact ⟨rfl,rfl⟩
theorem Da (hl:l.length≤1466015503701):ah Tryz.prog 54 [.l .stat l,.i i] [] (.x (.c (.own 0))) [.own 3 .int (cw l i l.length)]:=by
 refine dg mL Tryz.func54 (.stop zSa1 { n:=31,fr:=[(0,.p (.lst .stat l)),(1,.i i),(4,.p (.v (Value.slice none 0 0))),(5,.p (.v (Value.slice none 0 0))),(6,.i 0)],ck:=[] }) fun Γ=>?_
 refine J.nilOwn 5 3 .int rfl (by kernel_rfl) ?_
 exact M9 l i hl Γ l.length 0 (by omega) (by omega)
def mu:Ent:=(54,fun
 | [.c (.pd (.lst .stat l)),.c (.pd (.int .i64 i))],[]=>some (some (l.length≤1466015503701),.x (.c (.own 0)),[.own 3 .int (cw l i l.length)])
 | _,_=>none)
theorem oV:EntOk Tryz.prog mu:=entOk fun vs ck=>by
 unfold mu; dsimp only; split
 · rename_i l i; exact entS fun hp=>Da l i hp
 · exact entN
def rF:Cfg:=⟨aW,[jr,mu,gG]⟩
theorem nj:ag Tryz.prog rF.tab:=(ag.cons gT (ag.cons oV (ag.cons fZ ag.nil)))
theorem Ld (hk:k<9223372036854775807):(decide ((ETy.get .stat l k).kind<1)||decide ((ETy.get .stat l k).kind>6)||decide ((ETy.get .stat l k).depth<0)||decide ((ETy.get .stat l k).depth>5)||decide ((k:Int)>0)&&decide ((ETy.get .stat l k).depth>IntKind.wrap .i64 ((ETy.get .stat l (IntKind.wrap .i64 ((k:Int) - 1)).toNat).depth+1)))=hO l k:=by
 unfold hO
 congr 1
 by_cases h0:0<k
 · have e:(IntKind.wrap .i64 ((k:Int) - 1)).toNat=k - 1:=by rw [cm (by omega) (by omega)]; omega
   rw [e,decide_eq_true h0,decide_eq_true (show (k:Int)>0 by omega)]
 · rw [decide_eq_false h0,decide_eq_false (show ¬(k:Int)>0 by omega),ba,ba]
theorem Lj {b:Bool} {i:Int} (h:(decide (i≥0)&&b)=true):0≤i:=by
 rw [af] at h; exact of_decide_eq_true h.1
abbrev zSa2:List PI:=[.code [1,1,1,1,0,1,0,0,1,0,0,1,1,1,1,1,0,1,0,0],.inLoop [1,1,1,1,0,1,0,0,1,0,0,1,1,1,1,1,0,1,0,0],.inBlock 4,.code [1,1,1,1,0,1,0,0,1,0,0,1,1,1,1,1,1],.inBlock 3,.code [1,1,1,1,0,1,0,0,1,1],.inLoop [1,1,1,1,0,1,0,0],.inBlock 2,.code [1,1,1,1,1]]
abbrev zSa3:List PI:=[.code [1,1,1,1,0,1,0,0],.inLoop [1,1,1,1,0,1,0,0],.inBlock 2,.code [1,1,1,1,1]]
theorem Hy (ks:List Int) (hks:∀ y∈ks,0≤y∧y<(l.length:Int)) (hlen:ks.length≤maxLen) (Γ:Ctx) (res:Bool):∀ (n j:Nat) (b:Bool),ks.length - j≤n→j≤ks.length →
 ((b||(ks.drop j).any fun y=>!aM (ETy.get .stat l y.toNat).kind)=true→zJ68Sa Γ (Eq2 (.x (.b res)) []) zSa3 ({ n:=158,fr:=[(0,.p (.lst .stat l)),(2,.p (.bool false)),(3,.i r),(6,.i ((IntKind.wrap .i64 ((k:Int)+1))))],ck:=[],kn:=[2] }))→((b||(ks.drop j).any fun y=>!aM (ETy.get .stat l y.toNat).kind)=false→res=false) →
 zJ68Sa Γ (Eq2 (.x (.b res)) []) zSa2 ({ n:=158,fr:=[(0,.p (.lst .stat l)),(2,.p (.bool false)),(3,.i r),(6,.i k),(8,.p (.bool b)),(9,.x (.c (.own 0))),(10,.i ((j:Int)))],ck:=[.own 3 .int ks],kn:=[2] }):=by
 intro n
 induction n with
 | zero=>?_
 | succ n ih=>?_
 all_goals
  intro j b hn hj h1 h0
  refine jg nj Tryz.func68 (.ite (decide ((j:Int)<(ks.length:Int))) (.need (b=false→(0:Int)≤(j:Int)∧(j:Int)<(ks.length:Int)) (.need (b=false→j<ks.length) (.need (b=false→(0:Int)≤ETy.get .int ks j∧ETy.get .int ks j<(l.length:Int)) (.stop zSa2 { n:=158,fr:=[(0,.p (.lst .stat l)),(2,.p (.bool false)),(3,.i r),(6,.i k),(8,.p (.bool (b || !aM (Stat.kind (ETy.get .stat l ((ETy.get .int ks j).toNat)))))),(9,.x (.c (.own 0))),(10,.i (IntKind.wrap .i64 ((j:Int)+1)))],ck:=[.own 3 .int ks],kn:=[2] })))) (.ite (!b) (.ret (.p (.bool false)) []) (.stop zSa3 { n:=158,fr:=[(0,.p (.lst .stat l)),(2,.p (.bool false)),(3,.i r),(6,.i (IntKind.wrap .i64 ((k:Int)+1)))],ck:=[],kn:=[2] }))) ?_
  refine ⟨fun hlt=>?_,fun hge=>?_⟩
  · have hj':j<ks.length:=by have:=of_decide_eq_true hlt; omega
    have hy:=hks (ETy.get .int ks j) (by rw [ETy.get_eq (t:=.int) (List.getElem?_eq_getElem hj')]; exact bb hj')
    refine ⟨fun _=>⟨by omega,by omega⟩,fun _=>hj',fun _=>hy,?_⟩
    rw [aU (aB hj' hlen)]
    have ed:ks.drop j=ETy.get .int ks j::ks.drop (j+1):=br (t:=.int) (l:=ks) hj'
    rw [ed,cE,← Bool.or_assoc] at h1 h0
    first
    | (exfalso; omega)
    | exact ih (j+1) _ (by omega) (by omega) h1 h0
  · have hje:ks.drop j=[]:=bE (by have:=of_decide_eq_false hge; omega)
    rw [hje,List.any_nil,bS] at h1 h0
    refine ⟨fun hb=>?_,fun hb=>?_⟩
    · rw [h0 (by simpa using hb)]; exact ⟨rfl,rfl⟩
    · exact h1 (by simpa using hb)
theorem HR (hl:l.length≤1466015503701) (Γ:Ctx):∀ n k:Nat,l.length - k=n→k≤l.length →
 zJ68Sa Γ (Eq2 (.x (.b (fQ l n k&&decide (r≤4)))) []) zSa3 ({ n:=158,fr:=[(0,.p (.lst .stat l)),(2,.p (.bool false)),(3,.i r),(6,.i ((k:Int)))],ck:=[],kn:=[2] }):=by
 have hm:l.length≤maxLen:=aw hl (by decide)
 intro n
 induction n with
 | zero=>?_
 | succ n ih=>?_
 all_goals
  intro k hn hk
  refine jg nj Tryz.func68 (let x1:=(ETy.get .stat l ((aO l k).toNat)); let x2:=(aO l k≥(0:Int)); let x3:List Nat:=[1,1,1,1,0,1,0,0,1,0,0,1,1,1,1,1,0,1,0,0]; let x4:=(decide x2&&Stat.kind x1 != (2:Int)); let x5:List Nat:=[1,1,1,1,0,1,0,0]; .ite (decide ((k:Int)<(l.length:Int))) (.need ((0:Int)≤(k:Int)∧(k:Int)<(l.length:Int)∧l.length≤maxLen) (.need (decide x2=true→(0:Int)≤aO l k∧aO l k<(l.length:Int)) (.need (x4=true→(0:Int)≤aO l k∧aO l k<(l.length:Int)) (.need (x4=true∧(Stat.kind x1 != (3:Int))=false→(0:Int)≤(k:Int)∧(k:Int)<(l.length:Int)) (.ite (decide x2&&Stat.kind x1 != (2:Int)&&(Stat.kind x1 != (3:Int)||decide (Stat.kind (ETy.get .stat l k)>(3:Int)))) (.ret (.p (.bool false)) []) (.need (inRg k l.length) (.need ((Stat.kind (ETy.get .stat l k) != (2:Int))=true→(0:Int)≤(k:Int)∧(k:Int)<(l.length:Int)) (.ite (Stat.kind (ETy.get .stat l k) != (2:Int)&&Stat.kind (ETy.get .stat l k) != (3:Int)) (.stop [.code x5,.inLoop x5,.inBlock 2,.code [1,1,1,1,1]] { n:=158,fr:=[(0,.p (.lst .stat l)),(2,.p (.bool false)),(3,.i r),(6,.i (IntKind.wrap .i64 ((k:Int)+1)))],ck:=[],kn:=[2] }) (.need (l.length≤1466015503701) (.stop [.code x3,.inLoop x3,.inBlock 4,.code [1,1,1,1,0,1,0,0,1,0,0,1,1,1,1,1,1],.inBlock 3,.code [1,1,1,1,0,1,0,0,1,1],.inLoop x5,.inBlock 2,.code [1,1,1,1,1]] { n:=158,fr:=[(0,.p (.lst .stat l)),(2,.p (.bool false)),(3,.i r),(6,.i k),(8,.p (.bool false)),(9,.x (.c (.own 0))),(10,.i 0)],ck:=[.own 3 .int (cw l (k:Int) l.length)],kn:=[8,2] })))))))))) (.ret (.p (.bool (decide (r≤(4:Int))))) [])) ?_
  conv=>zeta
  refine ⟨fun hlt=>?_,fun hge=>?_⟩
  · have hk':k<l.length:=by have:=of_decide_eq_true hlt; omega
    have hp:=hZ l k
    refine ⟨⟨by omega,by omega,hm⟩,fun h=>⟨of_decide_eq_true h,by omega⟩,fun h=>⟨Lj h,by omega⟩,fun _=>⟨by omega,by omega⟩,fun hb=>?_,fun hb=>⟨⟨by omega,by omega⟩,fun _=>⟨by omega,by omega⟩,fun hs=>?_,fun hs=>⟨hl,?_⟩⟩⟩
    · have e:jH l k=false:=by unfold jH; rw [hb]; rfl
      first
      | (exfalso; omega)
      | (rw [fQ,e]; exact ⟨rfl,rfl⟩)
    · have e:jH l k=true:=by unfold jH; rw [hb,hs]; rfl
      rw [aU (aB hk' hm)]
      first
      | (exfalso; omega)
      | (rw [fQ,e,aX]; exact ih (k+1) (by omega) (by omega))
    · have e:jH l k=(cw l (k:Int) l.length).any fun y=>!aM (ETy.get .stat l y.toNat).kind:=by unfold jH; rw [hb,hs]; rfl
      refine J.kn [2] (Hy l r k _ (fun y hy=>xN l k hy) (aw (mV l k l.length) hm) Γ _ (cw l k l.length).length 0 false (by omega) (by omega) (fun h=>?_) (fun h=>?_))
      · rw [dq,a7,← e] at h
        rw [aU (aB hk' hm)]
        first
        | (exfalso; omega)
        | (rw [fQ,h,aX]; exact ih (k+1) (by omega) (by omega))
      · rw [dq,a7,← e] at h
        first
        | (exfalso; omega)
        | (rw [fQ,h]; rfl)
  · have:=of_decide_eq_false hge
    first
    | (exfalso; omega)
    | exact ⟨rfl,rfl⟩
def wT:Option Int→Bool
 | none=>false
 | some q=>fQ l l.length 0&&decide (q≤4)
abbrev zSa4:List PI:=[.code [1,1,1,0,1,0,0],.inLoop [1,1,1,0,1,0,0],.inBlock 0,.code [1,1,1,1]]
theorem Kj (hl:l.length≤1466015503701) (Γ:Ctx):∀ (n k:Nat) (r:Int),l.length - k=n→k≤l.length →
 zJ68Sa Γ (Eq2 (.x (.b (wT l (eQ l n k r)))) []) zSa4 ({ n:=158,fr:=[(0,.p (.lst .stat l)),(2,.p (.bool false)),(3,.i r),(4,.i ((k:Int)))],ck:=[],kn:=[2] }):=by
 have hm:l.length≤maxLen:=aw hl (by decide)
 intro n
 induction n with
 | zero=>?_
 | succ n ih=>?_
 all_goals
  intro k r hn hk
  refine jg nj Tryz.func68 (let x1:=(Stat.depth (ETy.get .stat l k)==(0:Int)&&Stat.kind (ETy.get .stat l k) != (2:Int)); let x2:List PI:=zSa4; let x3:Tree:=(.ret (.p (.bool false)) []); let x4:=(Stat.depth (ETy.get .stat l k)<(0:Int)); let x5:=(Stat.depth (ETy.get .stat l k)>(5:Int)); let x6:=(Stat.kind (ETy.get .stat l k)<(1:Int)); let x7:=(Stat.kind (ETy.get .stat l k)>(6:Int)); let x8:=(IntKind.wrap .i64 ((k:Int)+1)); .ite (decide ((k:Int)<(l.length:Int))) (.need (inRg k l.length) (.need ((((21,57,true,cF true (decide ((k:Int)>0)) (some (18,54,false,cF false (decide x6||decide x7||decide x4||decide x5) none))).2).2).2→(0:Int)≤IntKind.wrap .i64 ((k:Int) - 1)∧IntKind.wrap .i64 ((k:Int) - 1)<(l.length:Int)) (.ite (decide x6||decide x7||decide x4||decide x5||decide ((k:Int)>0)&&decide (Stat.depth (ETy.get .stat l k)>IntKind.wrap .i64 (Stat.depth (ETy.get .stat l ((IntKind.wrap .i64 ((k:Int) - 1)).toNat))+(1:Int)))) x3 (.ite (Stat.depth (ETy.get .stat l k)==(0:Int)) (.ite x1 x3 (.stop x2 { n:=158,fr:=[(0,.p (.lst .stat l)),(2,.p (.bool false)),(3,.i (IntKind.wrap .i64 (r+(1:Int)))),(4,.i x8)],ck:=[] })) (.ite x1 x3 (.stop x2 { n:=158,fr:=[(0,.p (.lst .stat l)),(2,.p (.bool false)),(3,.i r),(4,.i x8)],ck:=[] })))))) (.stop zSa3 { n:=158,fr:=[(0,.p (.lst .stat l)),(2,.p (.bool false)),(3,.i r),(6,.i 0)],ck:=[],kn:=[2] })) ?_
  conv=>zeta
  refine ⟨fun hlt=>?_,fun hge=>?_⟩
  · have hk':k<l.length:=by have:=of_decide_eq_true hlt; omega
    have hmx:=aB hk' hm
    have hbe:=Ld l k hmx
    rw [aU hmx]
    refine ⟨⟨by omega,by omega⟩,fun h=>?_,fun hb=>?_,fun hb=>⟨fun h0=>⟨fun h2=>?_,fun h2=>?_⟩,fun h0=>⟨fun h2=>?_,fun h2=>?_⟩⟩⟩
    · have h1:decide ((k:Int)>0)=true:=h.2
      have:=of_decide_eq_true h1
      rw [cm (by omega) (by omega)]; omega
    · have hb':hO l k=true:=by rw [← hbe]; exact hb
      first
      | (exfalso; omega)
      | (rw [eQ,if_pos hb']; exact ⟨rfl,rfl⟩)
    · have hb':hO l k=false:=by rw [← hbe]; exact hb
      rw [h0,aX] at h2
      first
      | (exfalso; omega)
      | (rw [eQ,if_neg (by rw [hb']; decide),if_pos h0,if_pos h2]; exact ⟨rfl,rfl⟩)
    · have hb':hO l k=false:=by rw [← hbe]; exact hb
      rw [h0,aX] at h2
      first
      | (exfalso; omega)
      | (rw [eQ,if_neg (by rw [hb']; decide),if_pos h0,if_neg (by rw [h2]; decide)]; exact J.kn [2] (ih (k+1) _ (by omega) (by omega)))
    · rw [h0,ba] at h2; cases h2
    · have hb':hO l k=false:=by rw [← hbe]; exact hb
      first
      | (exfalso; omega)
      | (rw [eQ,if_neg (by rw [hb']; decide),if_neg (by rw [h0]; decide)]; exact J.kn [2] (ih (k+1) _ (by omega) (by omega)))
  · have:=of_decide_eq_false hge
    first
    | (exfalso; omega)
    | exact HR l r hl Γ l.length 0 (by omega) (aS _)
theorem Ac (hl:l.length≤1466015503701):ah Tryz.prog 68 [.l .stat l] [] (.x (.b (fU l))) []:=by
 have eh:(decide ((l.length:Int)<1)||decide ((l.length:Int)>40)||(ETy.get .stat l 0).depth != 0)=(decide (l.length<1)||decide (l.length>40)||(ETy.get .stat l 0).depth != 0):=by
  rw [decide_eq_decide.2 (show (l.length:Int)<1↔l.length<1 by omega),decide_eq_decide.2 (show (l.length:Int)>40↔l.length>40 by omega)]
 refine dg nj Tryz.func68 (.need ((decide ((l.length:Int)<1)||decide ((l.length:Int)>40))=false→(0:Int)≤0∧(0:Int)<(l.length:Int)) (.ite (decide ((l.length:Int)<1)||decide ((l.length:Int)>40)||Stat.depth (ETy.get .stat l 0) != (0:Int)) (.ret (.p (.bool false)) []) (.stop zSa4 { n:=158,fr:=[(0,.p (.lst .stat l)),(2,.p (.bool false)),(3,.i 0),(4,.i 0)],ck:=[],kn:=[2] }))) fun Γ=>?_
 refine ⟨fun h=>⟨by omega,?_⟩,fun h=>?_,fun h=>?_⟩
 · rw [az] at h
   have:=of_decide_eq_false h.1
   omega
 · have h':=eh.symm.trans h
   unfold fU gZ; rw [h']; exact ⟨rfl,rfl⟩
 · have h':=eh.symm.trans h
   have e:fU l=wT l (eQ l l.length 0 0):=by
    unfold fU gZ; rw [h',cj,aX]
    cases eQ l l.length 0 0 with
    | none=>rfl
    | some q=>unfold CJ wT; simp only; rw [Bool.and_comm]
   rw [e]
   exact Kj l hl Γ l.length 0 0 (by omega) (aS _)
def C1:Ent:=(68,fun
 | [.c (.pd (.lst .stat l))],[]=>some (some (l.length≤1466015503701),.x (.c (.pd (.bool (fU l)))),[])
 | _,_=>none)
theorem Mf:EntOk Tryz.prog C1:=entOk fun vs ck=>by
 unfold C1; dsimp only; split
 · rename_i l; exact entS fun hp=>Ac l hp
 · exact entN
def Ch:Cfg:=⟨aW,[jr,mX]⟩
theorem yX:ag Tryz.prog Ch.tab:=(ag.cons gT (ag.cons nk ag.nil))
abbrev zSa5:List PI:=[.code [1,1,0,0,0],.inLoop [1,1,0,0,0],.inBlock 0,.code [1,1,1]]
theorem MB (hj:j<l.length) (hl:l.length≤maxLen) (Γ:Ctx):∀ (n:Nat) (k:Int), -1≤k→k<(l.length:Int)→k+1<(n:Int) →
 J Tryz.prog 28 (av Tryz.f28) Γ (Eq2 (.x (.i (jV l j n k))) []) zSa5 ({ n:=30,fr:=[(0,.p (.lst .stat l)),(2,.i j),(6,.i 0),(7,.i k)],ck:=[] }):=by
 intro n
 induction n with
 | zero=>intro k h1 h2 h3; omega
 | succ n ih =>
   intro k h1 h2 h3
   refine jg yX Tryz.func28 (.need (decide (k≥(0:Int))=true→(0:Int)≤k∧k<(l.length:Int)) (.need (decide (k≥(0:Int))=true∧(Stat.kind (ETy.get .stat l (Int.toNat k))==(2:Int))=true→(0:Int)≤(j:Int)∧(j:Int)<(l.length:Int)∧l.length≤maxLen) (.ite (decide (k≥(0:Int)) && !(Stat.kind (ETy.get .stat l (Int.toNat k))==(2:Int)&&dE l k j)) (.need ((0:Int)≤k∧k<(l.length:Int)∧l.length≤maxLen) (.stop zSa5 { n:=30,fr:=[(0,.p (.lst .stat l)),(2,.i j),(6,.i 0),(7,.i (aO l (Int.toNat k)))],ck:=[] })) (.ret (.i k) [])))) ?_
   refine ⟨fun h=>⟨of_decide_eq_true h,h2⟩,fun h=>⟨by omega,by omega,hl⟩,fun h=>?_,fun h=>?_⟩
   · rw [af] at h
     have hk:k≥0:=of_decide_eq_true h.1
     have hp:=hZ l k.toNat
     have e:((k.toNat:Nat):Int)=k:=eD hk
     refine ⟨⟨hk,h2,hl⟩,?_⟩
     have hc:((ETy.get .stat l k.toNat).kind==2&&dE l k j)=false:=by
      have h4:=h.2
      cases hx:((ETy.get .stat l k.toNat).kind==2&&dE l k j)
      · rfl
      · rw [hx] at h4; cases h4
     rw [jV,if_neg (by omega),if_neg (by rw [hc]; decide)]
     exact ih (aO l k.toNat) hp.1 (by omega) (by omega)
   · by_cases hk:k<0
     · rw [jV,if_pos hk]; exact ⟨rfl,rfl⟩
     · rw [decide_eq_true (show k≥0 by omega),aX] at h
       have hc:((ETy.get .stat l k.toNat).kind==2&&dE l k j)=true:=by simpa using h
       rw [jV,if_neg hk,if_pos hc]; exact ⟨rfl,rfl⟩
theorem Kb (i j:Nat) (hi:i<l.length) (hj:j<l.length) (hl:l.length≤maxLen):ah Tryz.prog 28 [.l .stat l,.i (i:Int),.i (j:Int)] [] (.x (.i (fO l i j))) []:=by
 refine dg yX Tryz.func28 (.stop zSa5 { n:=30,fr:=[(0,.p (.lst .stat l)),(2,.i j),(6,.i 0),(7,.i i)],ck:=[] }) fun Γ=>?_
 exact MB l j hj hl Γ (l.length+1) (i:Int) (by omega) (by omega) (by omega)
theorem FQ (j:Int) (h:0≤i∧i<(l.length:Int)∧0≤j∧j<(l.length:Int)∧l.length≤maxLen):ah Tryz.prog 28 [.l .stat l,.i i,.i j] [] (.x (.i (fO l i.toNat j.toNat))) []:=by
 obtain ⟨a,rfl⟩:=ax h.1
 obtain ⟨b,rfl⟩:=ax h.2.2.1
 rw [ai,ai]
 exact Kb l a b (by omega) (by omega) h.2.2.2.2
def rz:Ent:=(28,fun
 | [.c (.pd (.lst .stat l)),.c (.pd (.int .i64 i)),.c (.pd (.int .i64 j))],[]=>some (some (0≤i∧i<(l.length:Int)∧0≤j∧j<(l.length:Int)∧l.length≤maxLen),.x (.c (.pd (.int .i64 (fO l i.toNat j.toNat)))),[])
 | _,_=>none)
theorem wY:EntOk Tryz.prog rz:=entOk fun vs ck=>by
 unfold rz; dsimp only; split
 · rename_i l i j; exact entS fun hp=>FQ l i j hp
 · exact entN
end Go.Proofs.YtgfifkhbfdacjaaGreatDoor
