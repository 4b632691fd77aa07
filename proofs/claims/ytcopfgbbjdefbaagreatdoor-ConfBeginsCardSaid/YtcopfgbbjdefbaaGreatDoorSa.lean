/- Contracts: the document's trees: parents, what is within, children, right trees, domains. Conditions: sizes. -/
import Derived.Test.YtcopfgbbjdefbaaGreatDoorTa
namespace Go.Proofs.YtcopfgbbjdefbaaGreatDoor
open Go Go.Ev
set_option maxRecDepth 100000
abbrev zJ56Sa:=J Tryz.prog 56 (aA Tryz.f56)
def e8 (l:List Ev.Stat) (d:Int):Nat→Int
 | 0=>-1
 | k+1=>if ((ETy.get .stat l k).depth==d)=true then (k:Int) else e8 l d k
variable (l:List Ev.Stat) (i r:Int) (j k:Nat)
def aR (i:Nat):Int:=e8 l (IntKind.wrap .i64 ((ETy.get .stat l i).depth - 1)) i
def fT (l:List Ev.Stat) (i:Int):Nat→Int→Bool
 | 0,_=>false
 | n+1,k=>if k<0 then false else if (k==i)=true then true else fT l i n (aR l k.toNat)
def e9:Bool:=fT l i (l.length+1) (aR l j)
def bW (n:Nat):List Int:=((List.range n).filter fun k=>aR l k==i&&decide ((ETy.get .stat l k).depth>0)).map fun k:Nat=>(k:Int)
def gg:Bool:=decide ((ETy.get .stat l k).kind<1)||decide ((ETy.get .stat l k).kind>6)||decide ((ETy.get .stat l k).depth<0)||decide ((ETy.get .stat l k).depth>5)||decide (0<k)&&decide ((ETy.get .stat l k).depth>IntKind.wrap .i64 ((ETy.get .stat l (k - 1)).depth+1))
def ee (l:List Ev.Stat):Nat→Nat→Int→Option Int
 | 0,_,r=>some r
 | n+1,k,r=>if gg l k=true then none else if ((ETy.get .stat l k).depth==0)=true then (if ((ETy.get .stat l k).kind != 2)=true then none else ee l n (k+1) (IntKind.wrap .i64 (r+1))) else ee l n (k+1) r
def yp:Option Int→Bool
 | none=>false
 | some r=>decide (r≤4)
def gk:Bool:=!(decide (l.length<1)||decide (l.length>40)||(ETy.get .stat l 0).depth != 0)&&yp (ee l l.length 0 0)
def iT (i:Nat):Bool :=
 !(decide (aR l i≥0)&&(ETy.get .stat l (aR l i).toNat).kind != 2&&((ETy.get .stat l (aR l i).toNat).kind != 3||decide ((ETy.get .stat l i).kind>3)))&&(bif (ETy.get .stat l i).kind != 2&&(ETy.get .stat l i).kind != 3 then true else (bW l (i:Int) l.length).any fun y=>!aQ (ETy.get .stat l y.toNat).kind)
def fj (l:List Ev.Stat):Nat→Nat→Bool
 | 0,_=>true
 | n+1,k=>iT l k&&fj l n (k+1)
def fq:Bool:=gk l&&fj l l.length 0
def js (l:List Ev.Stat) (j:Nat):Nat→Int→Int
 | 0,_=>-1
 | n+1,k=>if k<0 then k else if ((ETy.get .stat l k.toNat).kind==2&&e9 l k j)=true then k else js l j n (aR l k.toNat)
def kA (i j:Nat):Int:=js l j (l.length+1) (i:Int)
theorem rS (l:List Ev.Stat) (d:Int):∀ k:Nat, -1≤e8 l d k∧e8 l d k<(k:Int)
 | 0=>by rw [e8]; omega
 | k+1=>by
   have:=rS l d k
   rw [e8]; split <;> omega
theorem ga : -1≤aR l k∧aR l k<(k:Int):=rS _ _ _
theorem wx (k:Int):ag Tryz.prog 35 [.i k] [] (.x (.b (aQ k))) []:=by
 refine dg aT Tryz.func35 (.ret (.p (.bool (k==(5:Int)||k==(6:Int)))) []) fun Γ=>?_
 exact ⟨rfl,rfl⟩
def ie:Ent:=(35,fun
 | [.c (.pd (.int .i64 k))],[]=>some (none,.x (.c (.pd (.bool (aQ k)))),[])
 | _,_=>none)
theorem gX:EntOk Tryz.prog ie:=entOk fun vs ck=>by
 unfold ie; dsimp only; split
 · rename_i k; exact entS fun hp=>wx k
 · exact entN
abbrev zSa1:List PI:=[.code [1,1,0,1,0,0],.inLoop [1,1,0,1,0,0],.inBlock 0,.code [1,1,1]]
theorem HH (i:Nat) (hi:i<l.length) (hl:l.length≤maxLen) (Γ:Ctx):∀ n k:Nat,i - k≤n→k≤i →
 J Tryz.prog 36 (aA Tryz.f36) Γ (Eq2 (.x (.i (aR l i))) []) zSa1 ({ n:=26,fr:=[(0,.p (.lst .stat l)),(1,.i i),(4,.i 0),(5,.i ((e8 l (IntKind.wrap .i64 ((ETy.get .stat l i).depth - 1)) k))),(6,.i ((k:Int)))],ck:=[] }):=by
 intro n
 induction n with
 | zero=>?_
 | succ n ih=>?_
 all_goals
  intro k hn hk
  generalize hfd:e8 l (IntKind.wrap .i64 ((ETy.get .stat l i).depth - 1)) k=fd
  refine jg aT Tryz.func36 (.ite (decide ((k:Int)<(i:Int))) (.need (inRg k l.length) (.need (inRg i l.length) (.ite (Stat.depth (ETy.get .stat l k)==IntKind.wrap .i64 (Stat.depth (ETy.get .stat l i) - (1:Int))) (.stop zSa1 { n:=26,fr:=[(0,.p (.lst .stat l)),(1,.i i),(4,.i 0),(5,.i k),(6,.i (IntKind.wrap .i64 ((k:Int)+1)))],ck:=[] }) (.stop zSa1 { n:=26,fr:=[(0,.p (.lst .stat l)),(1,.i i),(4,.i 0),(5,.i fd),(6,.i (IntKind.wrap .i64 ((k:Int)+1)))],ck:=[] })))) (.ret (.i fd) [])) ?_
  refine ⟨fun hlt=>?_,fun hge=>?_⟩
  · have hk':k<i:=by have:=of_decide_eq_true hlt; omega
    have hw:=a6 (aE (show k<l.length by omega) hl)
    refine ⟨⟨by omega,by omega⟩,⟨by omega,by omega⟩,fun h=>?_,fun h=>?_⟩
    · have e:e8 l (IntKind.wrap .i64 ((ETy.get .stat l i).depth - 1)) (k+1)=(k:Int):=by rw [e8,if_pos h]
      rw [hw,← e]
      first
      | (exfalso; omega)
      | exact ih (k+1) (by omega) (by omega)
    · have e:e8 l (IntKind.wrap .i64 ((ETy.get .stat l i).depth - 1)) (k+1)=fd:=by rw [e8,if_neg (by rw [h]; decide),hfd]
      rw [hw,← e]
      first
      | (exfalso; omega)
      | exact ih (k+1) (by omega) (by omega)
  · have hke:k=i:=by have:=of_decide_eq_false hge; omega
    subst hke
    refine ⟨?_,rfl⟩
    rw [← hfd]; rfl
theorem CG (h:0≤i∧i<(l.length:Int)∧l.length≤maxLen):ag Tryz.prog 36 [.l .stat l,.i i] [] (.x (.i (aR l i.toNat))) []:=by
 obtain ⟨k,rfl⟩:=ay h.1
 rw [ai]
 have key:ag Tryz.prog 36 [.l .stat l,.i (k:Int)] [] (.x (.i (aR l k))) []:=by
  refine dg aT Tryz.func36 (.stop zSa1 { n:=26,fr:=[(0,.p (.lst .stat l)),(1,.i k),(4,.i 0),(5,.i (-1:Int)),(6,.i 0)],ck:=[] }) fun Γ=>?_
  exact HH l k (by omega) h.2.2 Γ k 0 (by omega) (by omega)
 exact key
def jC:Ent:=(36,fun
 | [.c (.pd (.lst .stat l)),.c (.pd (.int .i64 i))],[]=>some (some (0≤i∧i<(l.length:Int)∧l.length≤maxLen),.x (.c (.pd (.int .i64 (aR l i.toNat)))),[])
 | _,_=>none)
theorem iP:EntOk Tryz.prog jC:=entOk fun vs ck=>by
 unfold jC; dsimp only; split
 · rename_i l i; exact entS fun hp=>CG l i hp
 · exact entN
def pC:Cfg:=⟨bb,[jC]⟩
theorem lQ:af Tryz.prog pC.tab:=(af.cons iP af.nil)
abbrev zSa6:List PI:=[.code [1,0,1,0,0],.inLoop [1,0,1,0,0],.inBlock 0,.code [1,1]]
theorem Ia (j:Nat) (hl:l.length≤maxLen) (Γ:Ctx):∀ (n:Nat) (k:Int), -1≤k→k<(l.length:Int)→k+1<(n:Int) →
 J Tryz.prog 27 (aA Tryz.f27) Γ (Eq2 (.x (.b (fT l i n k))) []) zSa6 ({ n:=19,fr:=[(0,.p (.lst .stat l)),(1,.i i),(6,.p (.bool false)),(7,.i k)],ck:=[],kn:=[6] }):=by
 intro n
 induction n with
 | zero=>intro k h1 h2 h3; omega
 | succ n ih =>
   intro k h1 h2 h3
   refine jg lQ Tryz.func27 (.ite (decide (k≥(0:Int))) (.ite (k==i) (.ret (.p (.bool true)) []) (.need ((0:Int)≤k∧k<(l.length:Int)∧l.length≤maxLen) (.stop zSa6 { n:=19,fr:=[(0,.p (.lst .stat l)),(1,.i i),(6,.p (.bool false)),(7,.i (aR l (Int.toNat k)))],ck:=[],kn:=[6] }))) (.ret (.p (.bool false)) [])) ?_
   refine ⟨fun h=>⟨fun he=>?_,fun he=>?_⟩,fun h=>?_⟩
   · have hk:k≥0:=of_decide_eq_true h
     rw [fT,if_neg (by omega),if_pos he]; exact ⟨rfl,rfl⟩
   · have hk:k≥0:=of_decide_eq_true h
     have hp:=ga l k.toNat
     have e:((k.toNat:Nat):Int)=k:=dn hk
     refine ⟨⟨hk,h2,hl⟩,?_⟩
     rw [fT,if_neg (by omega),if_neg (by rw [he]; decide)]
     exact ih (aR l k.toNat) hp.1 (by omega) (by omega)
   · have hk:¬k≥0:=of_decide_eq_false h
     rw [fT,if_pos (by omega)]; exact ⟨rfl,rfl⟩
theorem BD (j:Int) (h:0≤j∧j<(l.length:Int)∧l.length≤maxLen):ag Tryz.prog 27 [.l .stat l,.i i,.i j] [] (.x (.b (e9 l i j.toNat))) []:=by
 obtain ⟨k,rfl⟩:=ay h.1
 rw [ai]
 have key:ag Tryz.prog 27 [.l .stat l,.i i,.i (k:Int)] [] (.x (.b (e9 l i k))) []:=by
  refine dg lQ Tryz.func27 (.need ((0:Int)≤(k:Int)∧(k:Int)<(l.length:Int)∧l.length≤maxLen) (.stop zSa6 { n:=19,fr:=[(0,.p (.lst .stat l)),(1,.i i),(6,.p (.bool false)),(7,.i (aR l k))],ck:=[],kn:=[6] })) fun Γ=>?_
  have hp:=ga l k
  exact ⟨h,Ia l i k h.2.2 Γ (l.length+1) (aR l k) hp.1 (by omega) (by omega)⟩
 exact key
def qu:Ent:=(27,fun
 | [.c (.pd (.lst .stat l)),.c (.pd (.int .i64 i)),.c (.pd (.int .i64 j))],[]=>some (some (0≤j∧j<(l.length:Int)∧l.length≤maxLen),.x (.c (.pd (.bool (e9 l i j.toNat)))),[])
 | _,_=>none)
theorem vo:EntOk Tryz.prog qu:=entOk fun vs ck=>by
 unfold qu; dsimp only; split
 · rename_i l i j; exact entS fun hp=>BD l i j hp
 · exact entN
theorem A0:bW l i (k+1)=if (aR l k==i&&decide ((ETy.get .stat l k).depth>0))=true then bW l i k++[(k:Int)] else bW l i k:=by
 unfold bW
 rw [List.range_succ,cE,bT]
 cases h:(aR l k==i&&decide ((ETy.get .stat l k).depth>0)) <;> simp [h]
theorem pc:(bW l i k).length≤k:=by
 unfold bW
 rw [aL]
 exact aw (bK _ _) (by simp)
theorem FQ {k:Nat} {y:Int} (h:y∈bW l i k):0≤y∧y<(k:Int):=by
 unfold bW at h
 obtain ⟨m,hm,rfl⟩:=aV.1 h
 have:=bq.1 (aD.1 hm).1
 omega
theorem HS (hl:l.length≤1466015503701) (Γ:Ctx):∀ (n k:Nat),l.length - k≤n→k≤l.length →
 J Tryz.prog 38 (aA Tryz.f38) Γ (Eq2 (.x (.c (.own 0))) [.own 3 .int (bW l i l.length)]) zSa1 ({ n:=31,fr:=[(0,.p (.lst .stat l)),(1,.i i),(4,.p (.v (Value.slice none 0 0))),(5,.x (.c (.own 0))),(6,.i ((k:Int)))],ck:=[.own 3 .int (bW l i k)] }):=by
 have hm:l.length≤maxLen:=aw hl (by decide)
 intro n
 induction n with
 | zero=>?_
 | succ n ih=>?_
 all_goals
  intro k hn hk
  generalize hout:bW l i k=out
  refine jg lQ Tryz.func38 (let x1:List (Nat×SV):=[(0,.p (.lst .stat l)),(1,.i i),(4,.p (.v (Value.slice none 0 0))),(5,.x (.c (.own 0))),(6,.i (IntKind.wrap .i64 ((k:Int)+1)))]; let x2:List PI:=zSa1; .ite (decide ((k:Int)<(l.length:Int))) (.need ((0:Int)≤(k:Int)∧(k:Int)<(l.length:Int)∧l.length≤maxLen) (.need ((aR l k==i)=true→(0:Int)≤(k:Int)∧(k:Int)<(l.length:Int)) (.ite (aR l k==i&&decide (Stat.depth (ETy.get .stat l k)>(0:Int))) (.need (room ((out++[(k:Int)]).length) 8) (.stop x2 { n:=31,fr:=x1,ck:=[.own 3 .int (out++[(k:Int)])] })) (.stop x2 { n:=31,fr:=x1,ck:=[.own 3 .int out] })))) (.ret (.x (.c (.own 0))) [.own 3 .int out])) ?_
  conv=>zeta
  have hs:=A0 l i k
  rw [hout] at hs
  refine ⟨fun hlt=>?_,fun hge=>?_⟩
  · have hk':k<l.length:=by have:=of_decide_eq_true hlt; omega
    refine ⟨⟨by omega,by omega,hm⟩,fun _=>⟨by omega,by omega⟩,fun h=>?_,fun h=>?_⟩
    · rw [if_pos h] at hs
      have hle:=pc l i (k+1)
      rw [hs] at hle
      refine ⟨⟨by omega,by unfold maxLen; omega⟩,?_⟩
      rw [a6 (aE hk' hm),← hs]
      first
      | (exfalso; omega)
      | exact ih (k+1) (by omega) (by omega)
    · rw [if_neg (by rw [h]; decide)] at hs
      rw [a6 (aE hk' hm),← hs]
      first
      | (exfalso; omega)
      | exact ih (k+1) (by omega) (by omega)
  · have hke:k=l.length:=by have:=of_decide_eq_false hge; omega
    subst hke
    rw [hout]; exact ⟨rfl,rfl⟩
theorem Bi (hl:l.length≤1466015503701):ag Tryz.prog 38 [.l .stat l,.i i] [] (.x (.c (.own 0))) [.own 3 .int (bW l i l.length)]:=by
 refine dg lQ Tryz.func38 (.stop zSa1 { n:=31,fr:=[(0,.p (.lst .stat l)),(1,.i i),(4,.p (.v (Value.slice none 0 0))),(5,.p (.v (Value.slice none 0 0))),(6,.i 0)],ck:=[] }) fun Γ=>?_
 refine J.nilOwn 5 3 .int rfl (by kernel_rfl) ?_
 exact HS l i hl Γ l.length 0 (by omega) (by omega)
def mK:Ent:=(38,fun
 | [.c (.pd (.lst .stat l)),.c (.pd (.int .i64 i))],[]=>some (some (l.length≤1466015503701),.x (.c (.own 0)),[.own 3 .int (bW l i l.length)])
 | _,_=>none)
theorem sE:EntOk Tryz.prog mK:=entOk fun vs ck=>by
 unfold mK; dsimp only; split
 · rename_i l i; exact entS fun hp=>Bi l i hp
 · exact entN
def pE:Cfg:=⟨bb,[jC,mK,ie]⟩
theorem lE:af Tryz.prog pE.tab:=(af.cons iP (af.cons sE (af.cons gX af.nil)))
theorem Ik (hk:k<9223372036854775807):(decide ((ETy.get .stat l k).kind<1)||decide ((ETy.get .stat l k).kind>6)||decide ((ETy.get .stat l k).depth<0)||decide ((ETy.get .stat l k).depth>5)||decide ((k:Int)>0)&&decide ((ETy.get .stat l k).depth>IntKind.wrap .i64 ((ETy.get .stat l (IntKind.wrap .i64 ((k:Int) - 1)).toNat).depth+1)))=gg l k:=by
 unfold gg
 congr 1
 by_cases h0:0<k
 · have e:(IntKind.wrap .i64 ((k:Int) - 1)).toNat=k - 1:=by rw [ct (by omega) (by omega)]; omega
   rw [e,decide_eq_true h0,decide_eq_true (show (k:Int)>0 by omega)]
 · rw [decide_eq_false h0,decide_eq_false (show ¬(k:Int)>0 by omega),aK,aK]
theorem G3 {b:Bool} {i:Int} (h:(decide (i≥0)&&b)=true):0≤i:=by
 rw [ae] at h; exact of_decide_eq_true h.1
abbrev zSa2:List PI:=[.code [1,1,1,1,0,1,0,0,1,0,0,1,1,1,1,1,0,1,0,0],.inLoop [1,1,1,1,0,1,0,0,1,0,0,1,1,1,1,1,0,1,0,0],.inBlock 4,.code [1,1,1,1,0,1,0,0,1,0,0,1,1,1,1,1,1],.inBlock 3,.code [1,1,1,1,0,1,0,0,1,1],.inLoop [1,1,1,1,0,1,0,0],.inBlock 2,.code [1,1,1,1,1]]
abbrev zSa3:List PI:=[.code [1,1,1,1,0,1,0,0],.inLoop [1,1,1,1,0,1,0,0],.inBlock 2,.code [1,1,1,1,1]]
theorem DS (ks:List Int) (hks:∀ y∈ks,0≤y∧y<(l.length:Int)) (hlen:ks.length≤maxLen) (Γ:Ctx) (res:Bool):∀ (n j:Nat) (b:Bool),ks.length - j≤n→j≤ks.length →
 ((b||(ks.drop j).any fun y=>!aQ (ETy.get .stat l y.toNat).kind)=true→zJ56Sa Γ (Eq2 (.x (.b res)) []) zSa3 ({ n:=158,fr:=[(0,.p (.lst .stat l)),(2,.p (.bool false)),(3,.i r),(6,.i ((IntKind.wrap .i64 ((k:Int)+1))))],ck:=[],kn:=[2] }))→((b||(ks.drop j).any fun y=>!aQ (ETy.get .stat l y.toNat).kind)=false→res=false) →
 zJ56Sa Γ (Eq2 (.x (.b res)) []) zSa2 ({ n:=158,fr:=[(0,.p (.lst .stat l)),(2,.p (.bool false)),(3,.i r),(6,.i k),(8,.p (.bool b)),(9,.x (.c (.own 0))),(10,.i ((j:Int)))],ck:=[.own 3 .int ks],kn:=[2] }):=by
 intro n
 induction n with
 | zero=>?_
 | succ n ih=>?_
 all_goals
  intro j b hn hj h1 h0
  refine jg lE Tryz.func56 (.ite (decide ((j:Int)<(ks.length:Int))) (.need (b=false→(0:Int)≤(j:Int)∧(j:Int)<(ks.length:Int)) (.need (b=false→j<ks.length) (.need (b=false→(0:Int)≤ETy.get .int ks j∧ETy.get .int ks j<(l.length:Int)) (.stop zSa2 { n:=158,fr:=[(0,.p (.lst .stat l)),(2,.p (.bool false)),(3,.i r),(6,.i k),(8,.p (.bool (b || !aQ (Stat.kind (ETy.get .stat l ((ETy.get .int ks j).toNat)))))),(9,.x (.c (.own 0))),(10,.i (IntKind.wrap .i64 ((j:Int)+1)))],ck:=[.own 3 .int ks],kn:=[2] })))) (.ite (!b) (.ret (.p (.bool false)) []) (.stop zSa3 { n:=158,fr:=[(0,.p (.lst .stat l)),(2,.p (.bool false)),(3,.i r),(6,.i (IntKind.wrap .i64 ((k:Int)+1)))],ck:=[],kn:=[2] }))) ?_
  refine ⟨fun hlt=>?_,fun hge=>?_⟩
  · have hj':j<ks.length:=by have:=of_decide_eq_true hlt; omega
    have hy:=hks (ETy.get .int ks j) (by rw [ETy.get_eq (t:=.int) (List.getElem?_eq_getElem hj')]; exact b6 hj')
    refine ⟨fun _=>⟨by omega,by omega⟩,fun _=>hj',fun _=>hy,?_⟩
    rw [a6 (aE hj' hlen)]
    have ed:ks.drop j=ETy.get .int ks j::ks.drop (j+1):=bO (t:=.int) (l:=ks) hj'
    rw [ed,cX,← Bool.or_assoc] at h1 h0
    first
    | (exfalso; omega)
    | exact ih (j+1) _ (by omega) (by omega) h1 h0
  · have hje:ks.drop j=[]:=bX (by have:=of_decide_eq_false hge; omega)
    rw [hje,List.any_nil,bC] at h1 h0
    refine ⟨fun hb=>?_,fun hb=>?_⟩
    · rw [h0 (by simpa using hb)]; exact ⟨rfl,rfl⟩
    · exact h1 (by simpa using hb)
theorem Ex (hl:l.length≤1466015503701) (Γ:Ctx):∀ n k:Nat,l.length - k=n→k≤l.length →
 zJ56Sa Γ (Eq2 (.x (.b (fj l n k&&decide (r≤4)))) []) zSa3 ({ n:=158,fr:=[(0,.p (.lst .stat l)),(2,.p (.bool false)),(3,.i r),(6,.i ((k:Int)))],ck:=[],kn:=[2] }):=by
 have hm:l.length≤maxLen:=aw hl (by decide)
 intro n
 induction n with
 | zero=>?_
 | succ n ih=>?_
 all_goals
  intro k hn hk
  refine jg lE Tryz.func56 (let x1:=(ETy.get .stat l ((aR l k).toNat)); let x2:=(aR l k≥(0:Int)); let x3:List Nat:=[1,1,1,1,0,1,0,0,1,0,0,1,1,1,1,1,0,1,0,0]; let x4:=(decide x2&&Stat.kind x1 != (2:Int)); let x5:List Nat:=[1,1,1,1,0,1,0,0]; .ite (decide ((k:Int)<(l.length:Int))) (.need ((0:Int)≤(k:Int)∧(k:Int)<(l.length:Int)∧l.length≤maxLen) (.need (decide x2=true→(0:Int)≤aR l k∧aR l k<(l.length:Int)) (.need (x4=true→(0:Int)≤aR l k∧aR l k<(l.length:Int)) (.need (x4=true∧(Stat.kind x1 != (3:Int))=false→(0:Int)≤(k:Int)∧(k:Int)<(l.length:Int)) (.ite (decide x2&&Stat.kind x1 != (2:Int)&&(Stat.kind x1 != (3:Int)||decide (Stat.kind (ETy.get .stat l k)>(3:Int)))) (.ret (.p (.bool false)) []) (.need (inRg k l.length) (.need ((Stat.kind (ETy.get .stat l k) != (2:Int))=true→(0:Int)≤(k:Int)∧(k:Int)<(l.length:Int)) (.ite (Stat.kind (ETy.get .stat l k) != (2:Int)&&Stat.kind (ETy.get .stat l k) != (3:Int)) (.stop [.code x5,.inLoop x5,.inBlock 2,.code [1,1,1,1,1]] { n:=158,fr:=[(0,.p (.lst .stat l)),(2,.p (.bool false)),(3,.i r),(6,.i (IntKind.wrap .i64 ((k:Int)+1)))],ck:=[],kn:=[2] }) (.need (l.length≤1466015503701) (.stop [.code x3,.inLoop x3,.inBlock 4,.code [1,1,1,1,0,1,0,0,1,0,0,1,1,1,1,1,1],.inBlock 3,.code [1,1,1,1,0,1,0,0,1,1],.inLoop x5,.inBlock 2,.code [1,1,1,1,1]] { n:=158,fr:=[(0,.p (.lst .stat l)),(2,.p (.bool false)),(3,.i r),(6,.i k),(8,.p (.bool false)),(9,.x (.c (.own 0))),(10,.i 0)],ck:=[.own 3 .int (bW l (k:Int) l.length)],kn:=[8,2] })))))))))) (.ret (.p (.bool (decide (r≤(4:Int))))) [])) ?_
  conv=>zeta
  refine ⟨fun hlt=>?_,fun hge=>?_⟩
  · have hk':k<l.length:=by have:=of_decide_eq_true hlt; omega
    have hp:=ga l k
    refine ⟨⟨by omega,by omega,hm⟩,fun h=>⟨of_decide_eq_true h,by omega⟩,fun h=>⟨G3 h,by omega⟩,fun _=>⟨by omega,by omega⟩,fun hb=>?_,fun hb=>⟨⟨by omega,by omega⟩,fun _=>⟨by omega,by omega⟩,fun hs=>?_,fun hs=>⟨hl,?_⟩⟩⟩
    · have e:iT l k=false:=by unfold iT; rw [hb]; rfl
      first
      | (exfalso; omega)
      | (rw [fj,e]; exact ⟨rfl,rfl⟩)
    · have e:iT l k=true:=by unfold iT; rw [hb,hs]; rfl
      rw [a6 (aE hk' hm)]
      first
      | (exfalso; omega)
      | (rw [fj,e,aP]; exact ih (k+1) (by omega) (by omega))
    · have e:iT l k=(bW l (k:Int) l.length).any fun y=>!aQ (ETy.get .stat l y.toNat).kind:=by unfold iT; rw [hb,hs]; rfl
      refine J.kn [2] (DS l r k _ (fun y hy=>FQ l k hy) (aw (pc l k l.length) hm) Γ _ (bW l k l.length).length 0 false (by omega) (by omega) (fun h=>?_) (fun h=>?_))
      · rw [di,aW,← e] at h
        rw [a6 (aE hk' hm)]
        first
        | (exfalso; omega)
        | (rw [fj,h,aP]; exact ih (k+1) (by omega) (by omega))
      · rw [di,aW,← e] at h
        first
        | (exfalso; omega)
        | (rw [fj,h]; rfl)
  · have:=of_decide_eq_false hge
    first
    | (exfalso; omega)
    | exact ⟨rfl,rfl⟩
def tU:Option Int→Bool
 | none=>false
 | some q=>fj l l.length 0&&decide (q≤4)
abbrev zSa4:List PI:=[.code [1,1,1,0,1,0,0],.inLoop [1,1,1,0,1,0,0],.inBlock 0,.code [1,1,1,1]]
theorem EV (hl:l.length≤1466015503701) (Γ:Ctx):∀ (n k:Nat) (r:Int),l.length - k=n→k≤l.length →
 zJ56Sa Γ (Eq2 (.x (.b (tU l (ee l n k r)))) []) zSa4 ({ n:=158,fr:=[(0,.p (.lst .stat l)),(2,.p (.bool false)),(3,.i r),(4,.i ((k:Int)))],ck:=[],kn:=[2] }):=by
 have hm:l.length≤maxLen:=aw hl (by decide)
 intro n
 induction n with
 | zero=>?_
 | succ n ih=>?_
 all_goals
  intro k r hn hk
  refine jg lE Tryz.func56 (let x1:=(Stat.depth (ETy.get .stat l k)==(0:Int)&&Stat.kind (ETy.get .stat l k) != (2:Int)); let x2:List PI:=zSa4; let x3:Tree:=(.ret (.p (.bool false)) []); let x4:=(Stat.depth (ETy.get .stat l k)<(0:Int)); let x5:=(Stat.depth (ETy.get .stat l k)>(5:Int)); let x6:=(Stat.kind (ETy.get .stat l k)<(1:Int)); let x7:=(Stat.kind (ETy.get .stat l k)>(6:Int)); let x8:=(IntKind.wrap .i64 ((k:Int)+1)); .ite (decide ((k:Int)<(l.length:Int))) (.need (inRg k l.length) (.need ((((21,57,true,dN true (decide ((k:Int)>0)) (some (18,54,false,dN false (decide x6||decide x7||decide x4||decide x5) none))).2).2).2→(0:Int)≤IntKind.wrap .i64 ((k:Int) - 1)∧IntKind.wrap .i64 ((k:Int) - 1)<(l.length:Int)) (.ite (decide x6||decide x7||decide x4||decide x5||decide ((k:Int)>0)&&decide (Stat.depth (ETy.get .stat l k)>IntKind.wrap .i64 (Stat.depth (ETy.get .stat l ((IntKind.wrap .i64 ((k:Int) - 1)).toNat))+(1:Int)))) x3 (.ite (Stat.depth (ETy.get .stat l k)==(0:Int)) (.ite x1 x3 (.stop x2 { n:=158,fr:=[(0,.p (.lst .stat l)),(2,.p (.bool false)),(3,.i (IntKind.wrap .i64 (r+(1:Int)))),(4,.i x8)],ck:=[] })) (.ite x1 x3 (.stop x2 { n:=158,fr:=[(0,.p (.lst .stat l)),(2,.p (.bool false)),(3,.i r),(4,.i x8)],ck:=[] })))))) (.stop zSa3 { n:=158,fr:=[(0,.p (.lst .stat l)),(2,.p (.bool false)),(3,.i r),(6,.i 0)],ck:=[],kn:=[2] })) ?_
  conv=>zeta
  refine ⟨fun hlt=>?_,fun hge=>?_⟩
  · have hk':k<l.length:=by have:=of_decide_eq_true hlt; omega
    have hmx:=aE hk' hm
    have hbe:=Ik l k hmx
    rw [a6 hmx]
    refine ⟨⟨by omega,by omega⟩,fun h=>?_,fun hb=>?_,fun hb=>⟨fun h0=>⟨fun h2=>?_,fun h2=>?_⟩,fun h0=>⟨fun h2=>?_,fun h2=>?_⟩⟩⟩
    · have h1:decide ((k:Int)>0)=true:=h.2
      have:=of_decide_eq_true h1
      rw [ct (by omega) (by omega)]; omega
    · have hb':gg l k=true:=by rw [← hbe]; exact hb
      first
      | (exfalso; omega)
      | (rw [ee,if_pos hb']; exact ⟨rfl,rfl⟩)
    · have hb':gg l k=false:=by rw [← hbe]; exact hb
      rw [h0,aP] at h2
      first
      | (exfalso; omega)
      | (rw [ee,if_neg (by rw [hb']; decide),if_pos h0,if_pos h2]; exact ⟨rfl,rfl⟩)
    · have hb':gg l k=false:=by rw [← hbe]; exact hb
      rw [h0,aP] at h2
      first
      | (exfalso; omega)
      | (rw [ee,if_neg (by rw [hb']; decide),if_pos h0,if_neg (by rw [h2]; decide)]; exact J.kn [2] (ih (k+1) _ (by omega) (by omega)))
    · rw [h0,aK] at h2; cases h2
    · have hb':gg l k=false:=by rw [← hbe]; exact hb
      first
      | (exfalso; omega)
      | (rw [ee,if_neg (by rw [hb']; decide),if_neg (by rw [h0]; decide)]; exact J.kn [2] (ih (k+1) _ (by omega) (by omega)))
  · have:=of_decide_eq_false hge
    first
    | (exfalso; omega)
    | exact Ex l r hl Γ l.length 0 (by omega) (aO _)
theorem wL (hl:l.length≤1466015503701):ag Tryz.prog 56 [.l .stat l] [] (.x (.b (fq l))) []:=by
 have eh:(decide ((l.length:Int)<1)||decide ((l.length:Int)>40)||(ETy.get .stat l 0).depth != 0)=(decide (l.length<1)||decide (l.length>40)||(ETy.get .stat l 0).depth != 0):=by
  rw [decide_eq_decide.2 (show (l.length:Int)<1↔l.length<1 by omega),decide_eq_decide.2 (show (l.length:Int)>40↔l.length>40 by omega)]
 refine dg lE Tryz.func56 (.need ((decide ((l.length:Int)<1)||decide ((l.length:Int)>40))=false→(0:Int)≤0∧(0:Int)<(l.length:Int)) (.ite (decide ((l.length:Int)<1)||decide ((l.length:Int)>40)||Stat.depth (ETy.get .stat l 0) != (0:Int)) (.ret (.p (.bool false)) []) (.stop zSa4 { n:=158,fr:=[(0,.p (.lst .stat l)),(2,.p (.bool false)),(3,.i 0),(4,.i 0)],ck:=[],kn:=[2] }))) fun Γ=>?_
 refine ⟨fun h=>⟨by omega,?_⟩,fun h=>?_,fun h=>?_⟩
 · rw [an] at h
   have:=of_decide_eq_false h.1
   omega
 · have h':=eh.symm.trans h
   unfold fq gk; rw [h']; exact ⟨rfl,rfl⟩
 · have h':=eh.symm.trans h
   have e:fq l=tU l (ee l l.length 0 0):=by
    unfold fq gk; rw [h',cq,aP]
    cases ee l l.length 0 0 with
    | none=>rfl
    | some q=>unfold yp tU; simp only; rw [Bool.and_comm]
   rw [e]
   exact EV l hl Γ l.length 0 0 (by omega) (aO _)
def y6:Ent:=(56,fun
 | [.c (.pd (.lst .stat l))],[]=>some (some (l.length≤1466015503701),.x (.c (.pd (.bool (fq l)))),[])
 | _,_=>none)
theorem Io:EntOk Tryz.prog y6:=entOk fun vs ck=>by
 unfold y6; dsimp only; split
 · rename_i l; exact entS fun hp=>wL l hp
 · exact entN
def AD:Cfg:=⟨bb,[jC,qu]⟩
theorem ve:af Tryz.prog AD.tab:=(af.cons iP (af.cons vo af.nil))
abbrev zSa5:List PI:=[.code [1,1,0,0,0],.inLoop [1,1,0,0,0],.inBlock 0,.code [1,1,1]]
theorem Il (hj:j<l.length) (hl:l.length≤maxLen) (Γ:Ctx):∀ (n:Nat) (k:Int), -1≤k→k<(l.length:Int)→k+1<(n:Int) →
 J Tryz.prog 117 (aA Tryz.f117) Γ (Eq2 (.x (.i (js l j n k))) []) zSa5 ({ n:=30,fr:=[(0,.p (.lst .stat l)),(2,.i j),(6,.i 0),(7,.i k)],ck:=[] }):=by
 intro n
 induction n with
 | zero=>intro k h1 h2 h3; omega
 | succ n ih =>
   intro k h1 h2 h3
   refine jg ve Tryz.func117 (.need (decide (k≥(0:Int))=true→(0:Int)≤k∧k<(l.length:Int)) (.need (decide (k≥(0:Int))=true∧(Stat.kind (ETy.get .stat l (Int.toNat k))==(2:Int))=true→(0:Int)≤(j:Int)∧(j:Int)<(l.length:Int)∧l.length≤maxLen) (.ite (decide (k≥(0:Int)) && !(Stat.kind (ETy.get .stat l (Int.toNat k))==(2:Int)&&e9 l k j)) (.need ((0:Int)≤k∧k<(l.length:Int)∧l.length≤maxLen) (.stop zSa5 { n:=30,fr:=[(0,.p (.lst .stat l)),(2,.i j),(6,.i 0),(7,.i (aR l (Int.toNat k)))],ck:=[] })) (.ret (.i k) [])))) ?_
   refine ⟨fun h=>⟨of_decide_eq_true h,h2⟩,fun h=>⟨by omega,by omega,hl⟩,fun h=>?_,fun h=>?_⟩
   · rw [ae] at h
     have hk:k≥0:=of_decide_eq_true h.1
     have hp:=ga l k.toNat
     have e:((k.toNat:Nat):Int)=k:=dn hk
     refine ⟨⟨hk,h2,hl⟩,?_⟩
     have hc:((ETy.get .stat l k.toNat).kind==2&&e9 l k j)=false:=by
      have h4:=h.2
      cases hx:((ETy.get .stat l k.toNat).kind==2&&e9 l k j)
      · rfl
      · rw [hx] at h4; cases h4
     rw [js,if_neg (by omega),if_neg (by rw [hc]; decide)]
     exact ih (aR l k.toNat) hp.1 (by omega) (by omega)
   · by_cases hk:k<0
     · rw [js,if_pos hk]; exact ⟨rfl,rfl⟩
     · rw [decide_eq_true (show k≥0 by omega),aP] at h
       have hc:((ETy.get .stat l k.toNat).kind==2&&e9 l k j)=true:=by simpa using h
       rw [js,if_neg hk,if_pos hc]; exact ⟨rfl,rfl⟩
theorem DJ (i j:Nat) (hi:i<l.length) (hj:j<l.length) (hl:l.length≤maxLen):ag Tryz.prog 117 [.l .stat l,.i (i:Int),.i (j:Int)] [] (.x (.i (kA l i j))) []:=by
 refine dg ve Tryz.func117 (.stop zSa5 { n:=30,fr:=[(0,.p (.lst .stat l)),(2,.i j),(6,.i 0),(7,.i i)],ck:=[] }) fun Γ=>?_
 exact Il l j hj hl Γ (l.length+1) (i:Int) (by omega) (by omega) (by omega)
theorem Cj (j:Int) (h:0≤i∧i<(l.length:Int)∧0≤j∧j<(l.length:Int)∧l.length≤maxLen):ag Tryz.prog 117 [.l .stat l,.i i,.i j] [] (.x (.i (kA l i.toNat j.toNat))) []:=by
 obtain ⟨a,rfl⟩:=ay h.1
 obtain ⟨b,rfl⟩:=ay h.2.2.1
 rw [ai,ai]
 exact DJ l a b (by omega) (by omega) h.2.2.2.2
def tN:Ent:=(117,fun
 | [.c (.pd (.lst .stat l)),.c (.pd (.int .i64 i)),.c (.pd (.int .i64 j))],[]=>some (some (0≤i∧i<(l.length:Int)∧0≤j∧j<(l.length:Int)∧l.length≤maxLen),.x (.c (.pd (.int .i64 (kA l i.toNat j.toNat)))),[])
 | _,_=>none)
theorem DV:EntOk Tryz.prog tN:=entOk fun vs ck=>by
 unfold tN; dsimp only; split
 · rename_i l i j; exact entS fun hp=>Cj l i j hp
 · exact entN
end Go.Proofs.YtcopfgbbjdefbaaGreatDoor
